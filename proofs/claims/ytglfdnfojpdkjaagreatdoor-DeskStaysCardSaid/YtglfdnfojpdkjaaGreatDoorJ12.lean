/- demand.Steps; the law DemandSteps. -/
import Derived.Test.YtglfdnfojpdkjaaGreatDoorJ10
import Derived.Test.YtglfdnfojpdkjaaGreatDoorJ9
import Derived.Test.YtglfdnfojpdkjaaGreatDoorJ11
import Derived.Test.YtglfdnfojpdkjaaGreatDoorJ1
namespace Go.Proofs.YtglfdnfojpdkjaaGreatDoor
open Go.RowKit

abbrev intC (d : Int) : List Value := [.int .i64 d]
theorem intC_len (d : Int) : (intC d).length = 1 := rfl
theorem intC_one (d : Int) : ∀ u ∈ intC d, u.oneCell' = true := by intro u hu; simp at hu; subst hu; rfl
def IntsAt (w : World) (a : Option Addr) (l : List Int) : Prop := RecsAt 1 intC w a l
theorem IntsAt.gr {w w' : World} {a : Option Addr} {l : List Int} (h : IntsAt w a l) (g : Gr w w') : IntsAt w' a l := by
  intro i s hi
  obtain ⟨b, off, ha, hb, hc⟩ := h i s hi
  exact ⟨b, off, ha, Nat.lt_of_lt_of_le hb g.size, fun j u hu => by rw [g.cells.1 _ _ hb]; exact hc j u hu⟩
theorem IntsAt.get {w : World} {a : Option Addr} {l : List Int} (h : IntsAt w a l) {i : Nat} {d : Int} (hd : l[i]? = some d) : ∃ b off, a = some ⟨b, off, none⟩ ∧ b < w.heap.size ∧ w.cell? ⟨b, off + i, none⟩ = some (.int .i64 d) := by
  obtain ⟨b, off, ha, hb, hc⟩ := h i d hd
  exact ⟨b, off, ha, hb, by simpa using hc 0 _ rfl⟩
theorem Tryz.infoInt : (Tryz.prog.info? 3).map (fun i => (i.zero, i.size, i.bytes)) = some (some (.int .i64 0), 1, 8) := by kernel_rfl

/-- The demand of servers in i ticks; where it grows. -/
def demI (l : List Srv) (i : Int) : Int := sumI (fun s => askedI s i) l
def stepsL (l : List Srv) : Nat → List Int
  | 0 => []
  | i + 1 => stepsL l i ++ if demI l i < demI l ((i : Int) + 1) then [(i : Int) + 1] else []
theorem demI_zero (l : List Srv) (h : allLeg l = true) : demI l 0 = 0 := by
  unfold demI
  have : ∀ s ∈ l, askedI s 0 = 0 := fun s hs => by
    have := (Srv.leg_iff s).1 (List.all_eq_true.1 h s hs)
    unfold askedI
    simp
    omega
  clear h
  induction l with
  | nil => rfl
  | cons s r ih => rw [sumI_cons, this s (List.mem_cons_self ..), ih (fun x hx => this x (List.mem_cons_of_mem _ hx))]; rfl
theorem stepsL_yes {l : List Srv} {i : Nat} (h : demI l i < demI l ((i : Int) + 1)) : stepsL l (i + 1) = stepsL l i ++ [(i : Int) + 1] := by rw [stepsL, if_pos h]
theorem stepsL_no {l : List Srv} {i : Nat} (h : ¬ demI l i < demI l ((i : Int) + 1)) : stepsL l (i + 1) = stepsL l i := by rw [stepsL, if_neg h, List.append_nil]
theorem stepsL_len (l : List Srv) (i : Nat) : (stepsL l i).length ≤ i := by
  induction i with
  | zero => exact Nat.le_refl _
  | succ i ih => rw [stepsL, List.length_append]; split <;> simp <;> omega
theorem stepsL_pre (l : List Srv) (i d : Nat) : ∃ r, stepsL l (i + d) = stepsL l i ++ r := by
  induction d with
  | zero => exact ⟨[], by simp⟩
  | succ d ih =>
    obtain ⟨r, hr⟩ := ih
    exact ⟨r ++ if demI l ((i + d : Nat) : Int) < demI l (((i + d : Nat) : Int) + 1) then [((i + d : Nat) : Int) + 1] else [], by rw [← Nat.add_assoc, stepsL, hr, List.append_assoc]⟩
theorem stepsL_at {l : List Srv} {i n : Nat} (hn : i < n) (h : demI l i < demI l ((i : Int) + 1)) : (stepsL l n)[(stepsL l i).length]? = some ((i : Int) + 1) := by
  obtain ⟨r, hr⟩ := stepsL_pre l (i + 1) (n - (i + 1))
  rw [show i + 1 + (n - (i + 1)) = n by omega, stepsL_yes h] at hr
  rw [hr, List.append_assoc, List.getElem?_append_right (Nat.le_refl _), Nat.sub_self]
  rfl
theorem demI_bd {l : List Srv} (h : allLeg l = true) (h8 : l.length ≤ 8) {n : Int} (hn : LenOk n) : 0 ≤ demI l n ∧ demI l n ≤ 8 * (1099511627776 + 512) := by
  have := sumI_bd (fun s => askedI s n) l (1099511627776 + 512) (fun x hx => by have := asked_bd ((Srv.leg_iff _).1 (List.all_eq_true.1 h x hx)) hn; omega)
  unfold demI
  omega

set_option maxHeartbeats 400000 in
theorem steps_no {G : List Nat} {E : Nat → Addr} (a : Option Addr) (l : List Srv) (c : Nat) (n : Int) (w : World) (hE : EAt G E w) (i0 : 4 ∈ G) (i3 : 7 ∈ G) (i2 : 2 ∈ G) (hl : SrvsAt w a l) (hm : l.length ≤ maxLen) (g : Nat) (h : chkS l 0 = some g) :
    Calls Tryz.prog 133 #[.slice a l.length c, .int .i64 n] w fun e w' => e = .returned (.slice none 0 0) ∧ Gr w w' := by
  replace h := Lib.hid h
  go_enter Tryz.func133, Tryz.ntmps133
  go_wp2_with fail
  refine (check_no a l c 0 _ hE i0 i3 i2 hl hm g h.out).mono ?_
  rintro e wa ⟨rfl, ga⟩
  obtain ⟨ca, fa, sa⟩ := ga.cells
  try simp only [size_drewN] at ca fa sa
  try simp only [World.size_alloc] at ca fa sa
  try simp only [World.size_drew] at ca fa sa
  try simp only [World.size_setCell] at ca fa sa
  go_wp2_with fail
  go_ret
  exact ⟨rfl, ga⟩

def StepsP (l : List Srv) (N : Nat) (w : World) (e : Ending) (w' : World) : Prop :=
  ∃ (a : Option Addr) (c : Nat), e = .returned (.slice a (stepsL l N).length c) ∧ IntsAt w' a (stepsL l N) ∧ Gr w w'

set_option maxHeartbeats 1600000 in
set_option maxRecDepth 100000 in
theorem steps_yes (a : Option Addr) (l : List Srv) (c : Nat) (n : Int) (N : Nat) (w : World) (hl : SrvsAt w a l) (h : srvErr l = none) (hck : chkS l 0 = none) (hal : allLeg l = true) (h8 : l.length ≤ 8) (hN : N = (min n 4096).toNat) (n1 : -9223372036854775808 ≤ n) (n2 : n ≤ 9223372036854775807) :
    Calls Tryz.prog 133 #[.slice a l.length c, .int .i64 n] w (StepsP l N w) := by
  obtain ⟨i3, hi, hz0, hz1, hz2⟩ := info_parts Tryz.infoInt
  have hm1 : N ≤ 4096 := by omega
  replace hN := Lib.hid hN
  replace h := Lib.hid h
  replace hck := Lib.hid hck
  have hz := demI_zero l hal
  replace hz := Lib.hid hz
  replace hal := Lib.hid hal
  have hcase : n ≤ 4096 ∨ 4096 < n := by omega
  rcases hcase with hq | hq
  · go_enter Tryz.func133, Tryz.ntmps133
    go_wp2_with fail
    refine (check_yes a l c 0 _ hl hck.out).mono ?_
    rintro e wa ⟨rfl, ga⟩
    obtain ⟨ca, fa, sa⟩ := ga.cells
    try simp only [size_drewN] at ca fa sa
    try simp only [World.size_alloc] at ca fa sa
    try simp only [World.size_drew] at ca fa sa
    try simp only [World.size_setCell] at ca fa sa
    go_wp2_with fail
    go_loopw [7, 5, 6] (fun lv ov tv wr => ∃ i : Nat, i ≤ N ∧ lv = .int .i64 ((i : Int) + 1) ∧ tv = .int .i64 (demI l i) ∧ wr.ownsRow w.heap.size 3 1 ov (stepsL l i).length ((stepsL l i).flatMap intC) ∧ Gr w wr) (fun lv _ _ _ => N + 1 - (intOf lv).toNat)
    case atStart => exact ⟨0, Nat.zero_le _, rfl, by rw [show ((0 : Nat) : Int) = 0 from rfl, hz.out], World.ownsRow_nil _ _ _ _, ga⟩
    case round =>
      obtain ⟨i, hiN, rfl, rfl, hown, hg⟩ := hrel
      have bi := demI_bd hal.out h8 (n := i) ⟨by omega, by omega⟩
      obtain ⟨bi1, bi2⟩ := bi
      by_cases hlt : i < N
      · have hon : LenOk ((i : Int) + 1) := ⟨by omega, by omega⟩
        have hle : (i : Int) + 1 ≤ n := by have := hN.out; omega
        have hle2 : (i : Int) + 1 ≤ 4096 := by omega
        have bj := demI_bd hal.out h8 hon
        obtain ⟨bj1, bj2⟩ := bj
        obtain ⟨wo, rfl⟩ : ∃ wo : World, wo = wr := ⟨_, rfl⟩
        go_wp2_with fail
        go_loopw [22, 8] (fun iv v wr => ∃ k : Nat, k ≤ l.length ∧ iv = .int .i64 k ∧ v = .int .i64 (demI (l.take k) ((i : Int) + 1)) ∧ Gr wo wr) (fun iv _ _ => l.length - (intOf iv).toNat)
        case atStart => exact ⟨0, Nat.zero_le _, rfl, rfl, Gr.refl _⟩
        case round =>
          obtain ⟨k, hk, rfl, rfl, hgx⟩ := hrel
          have hgw : Gr w wr := hg.trans hgx
          by_cases hkl : k < l.length
          · obtain ⟨s, hs⟩ := get_some l k hkl
            obtain ⟨b, off, rfl, hb, c0, c1, c2⟩ := (hl.gr hgw) k s hs
            have hleg := (Srv.leg_iff _).1 (allLeg_get hal.out hs)
            have bd := asked_bd hleg hon
            have sb := demI_bd (l := l.take k) (List.all_eq_true.2 fun x hx => List.all_eq_true.1 hal.out x (List.mem_of_mem_take hx)) (by rw [List.length_take]; omega) hon
            have hsn : demI (l.take (k + 1)) ((i : Int) + 1) = demI (l.take k) ((i : Int) + 1) + askedI s ((i : Int) + 1) := by unfold demI; rw [take_snoc hs, sumI_snoc]
            replace hsn := Lib.hid hsn
            generalize demI (l.take k) ((i : Int) + 1) = m at *
            obtain ⟨bd1, bd2⟩ := bd
            obtain ⟨sb1, sb2⟩ := sb
            go_wp2_with fail
            refine (asked_any s _ _ hleg hon).mono ?_
            rintro e wd ⟨rfl, gd⟩
            obtain ⟨cd, fd, sd⟩ := gd.cells
            try simp only [size_drewN] at cd fd sd
            try simp only [World.size_alloc] at cd fd sd
            try simp only [World.size_drew] at cd fd sd
            try simp only [World.size_setCell] at cd fd sd
            go_wp2_with fail
            go_roundw
            case rel => exact ⟨k + 1, by omega, by go_num, by rw [hsn.out], (hgx.alloc _).trans gd⟩
            case measure => simp [intOf]; omega
          · have hall : l.take k = l := List.take_of_length_le (by omega)
            rw [hall]
            by_cases hd : demI l i < demI l ((i : Int) + 1)
            · have hst := stepsL_yes hd
              have ln := stepsL_len l i
              have n1 : (stepsL l i).length + ([(i : Int) + 1] : List Int).length ≤ maxLen := by unfold maxLen; simp; omega
              have n2 : ((stepsL l i).length + ([(i : Int) + 1] : List Int).length) * 8 ≤ 140737488355328 := by simp; omega
              replace hst := Lib.hid hst
              have n3 : w.heap.size ≤ wr.heap.size := hgw.size
              have hown2 := owns_gr hown hgx
              clear hown
              go_wp2_with (at_builtin; refine wpList_append_recs (k := 1) (enc := intC) rfl _ _ 106 rfl w.heap.size 3 i3 _ 8 Tryz.underlying106 hi hz0 hz1 hz2 rfl (by decide) intC_len intC_one _ (stepsL l i) rfl (hown2.alloc _) (some ⟨wr.heap.size, 0, none⟩) 1 [(i : Int) + 1] rfl (recs_alloc intC_len wr [(i : Int) + 1] _ _ rfl) (fun h => by cases h) n1 n2 (le_alloc n3 _) ?_; intro v1 w1 hown1 hgr1)
              have hg1 : Gr w w1 := (hgw.alloc _).grown hgr1 (own_block hown2)
              go_wp2_with fail
              go_roundw
              case rel => exact ⟨i + 1, by omega, by go_num, by simp, by rw [hst.out]; exact hown1, hg1⟩
              case measure => simp [intOf]; omega
            · have hst := stepsL_no hd
              replace hst := Lib.hid hst
              have hown2 := owns_gr hown hgx
              clear hown
              go_wp2_with fail
              go_roundw
              case rel => exact ⟨i + 1, by omega, by go_num, by simp, by rw [hst.out]; exact hown2, hgw⟩
              case measure => simp [intOf]; omega
      · have hle : ¬ (i : Int) + 1 ≤ n ∨ ¬ (i : Int) + 1 ≤ 4096 := by have := hN.out; omega
        obtain rfl : i = N := by omega
        have hle2 : (n ≤ 4096 → n < (i : Int) + 1) ∧ (4096 < n → 4096 < (i : Int) + 1) := by have := hN.out; omega
        have hle3 := hle2.1 hq
        clear hle hle2
        obtain ⟨a', c', hv, hr, _, _⟩ := recs_of_owns intC_len hown
        subst hv
        go_wp2_with fail
        go_ret
        exact ⟨a', c', rfl, hr, hg⟩
  · go_enter Tryz.func133, Tryz.ntmps133
    go_wp2_with fail
    refine (check_yes a l c 0 _ hl hck.out).mono ?_
    rintro e wa ⟨rfl, ga⟩
    obtain ⟨ca, fa, sa⟩ := ga.cells
    try simp only [size_drewN] at ca fa sa
    try simp only [World.size_alloc] at ca fa sa
    try simp only [World.size_drew] at ca fa sa
    try simp only [World.size_setCell] at ca fa sa
    go_wp2_with fail
    go_loopw [7, 5, 6] (fun lv ov tv wr => ∃ i : Nat, i ≤ N ∧ lv = .int .i64 ((i : Int) + 1) ∧ tv = .int .i64 (demI l i) ∧ wr.ownsRow w.heap.size 3 1 ov (stepsL l i).length ((stepsL l i).flatMap intC) ∧ Gr w wr) (fun lv _ _ _ => N + 1 - (intOf lv).toNat)
    case atStart => exact ⟨0, Nat.zero_le _, rfl, by rw [show ((0 : Nat) : Int) = 0 from rfl, hz.out], World.ownsRow_nil _ _ _ _, ga⟩
    case round =>
      obtain ⟨i, hiN, rfl, rfl, hown, hg⟩ := hrel
      have bi := demI_bd hal.out h8 (n := i) ⟨by omega, by omega⟩
      obtain ⟨bi1, bi2⟩ := bi
      by_cases hlt : i < N
      · have hon : LenOk ((i : Int) + 1) := ⟨by omega, by omega⟩
        have hle : (i : Int) + 1 ≤ n := by have := hN.out; omega
        have hle2 : (i : Int) + 1 ≤ 4096 := by omega
        have bj := demI_bd hal.out h8 hon
        obtain ⟨bj1, bj2⟩ := bj
        obtain ⟨wo, rfl⟩ : ∃ wo : World, wo = wr := ⟨_, rfl⟩
        go_wp2_with fail
        go_loopw [22, 8] (fun iv v wr => ∃ k : Nat, k ≤ l.length ∧ iv = .int .i64 k ∧ v = .int .i64 (demI (l.take k) ((i : Int) + 1)) ∧ Gr wo wr) (fun iv _ _ => l.length - (intOf iv).toNat)
        case atStart => exact ⟨0, Nat.zero_le _, rfl, rfl, Gr.refl _⟩
        case round =>
          obtain ⟨k, hk, rfl, rfl, hgx⟩ := hrel
          have hgw : Gr w wr := hg.trans hgx
          by_cases hkl : k < l.length
          · obtain ⟨s, hs⟩ := get_some l k hkl
            obtain ⟨b, off, rfl, hb, c0, c1, c2⟩ := (hl.gr hgw) k s hs
            have hleg := (Srv.leg_iff _).1 (allLeg_get hal.out hs)
            have bd := asked_bd hleg hon
            have sb := demI_bd (l := l.take k) (List.all_eq_true.2 fun x hx => List.all_eq_true.1 hal.out x (List.mem_of_mem_take hx)) (by rw [List.length_take]; omega) hon
            have hsn : demI (l.take (k + 1)) ((i : Int) + 1) = demI (l.take k) ((i : Int) + 1) + askedI s ((i : Int) + 1) := by unfold demI; rw [take_snoc hs, sumI_snoc]
            replace hsn := Lib.hid hsn
            generalize demI (l.take k) ((i : Int) + 1) = m at *
            obtain ⟨bd1, bd2⟩ := bd
            obtain ⟨sb1, sb2⟩ := sb
            go_wp2_with fail
            refine (asked_any s _ _ hleg hon).mono ?_
            rintro e wd ⟨rfl, gd⟩
            obtain ⟨cd, fd, sd⟩ := gd.cells
            try simp only [size_drewN] at cd fd sd
            try simp only [World.size_alloc] at cd fd sd
            try simp only [World.size_drew] at cd fd sd
            try simp only [World.size_setCell] at cd fd sd
            go_wp2_with fail
            go_roundw
            case rel => exact ⟨k + 1, by omega, by go_num, by rw [hsn.out], (hgx.alloc _).trans gd⟩
            case measure => simp [intOf]; omega
          · have hall : l.take k = l := List.take_of_length_le (by omega)
            rw [hall]
            by_cases hd : demI l i < demI l ((i : Int) + 1)
            · have hst := stepsL_yes hd
              have ln := stepsL_len l i
              have n1 : (stepsL l i).length + ([(i : Int) + 1] : List Int).length ≤ maxLen := by unfold maxLen; simp; omega
              have n2 : ((stepsL l i).length + ([(i : Int) + 1] : List Int).length) * 8 ≤ 140737488355328 := by simp; omega
              replace hst := Lib.hid hst
              have n3 : w.heap.size ≤ wr.heap.size := hgw.size
              have hown2 := owns_gr hown hgx
              clear hown
              go_wp2_with (at_builtin; refine wpList_append_recs (k := 1) (enc := intC) rfl _ _ 106 rfl w.heap.size 3 i3 _ 8 Tryz.underlying106 hi hz0 hz1 hz2 rfl (by decide) intC_len intC_one _ (stepsL l i) rfl (hown2.alloc _) (some ⟨wr.heap.size, 0, none⟩) 1 [(i : Int) + 1] rfl (recs_alloc intC_len wr [(i : Int) + 1] _ _ rfl) (fun h => by cases h) n1 n2 (le_alloc n3 _) ?_; intro v1 w1 hown1 hgr1)
              have hg1 : Gr w w1 := (hgw.alloc _).grown hgr1 (own_block hown2)
              go_wp2_with fail
              go_roundw
              case rel => exact ⟨i + 1, by omega, by go_num, by simp, by rw [hst.out]; exact hown1, hg1⟩
              case measure => simp [intOf]; omega
            · have hst := stepsL_no hd
              replace hst := Lib.hid hst
              have hown2 := owns_gr hown hgx
              clear hown
              go_wp2_with fail
              go_roundw
              case rel => exact ⟨i + 1, by omega, by go_num, by simp, by rw [hst.out]; exact hown2, hgw⟩
              case measure => simp [intOf]; omega
      · have hle : ¬ (i : Int) + 1 ≤ n ∨ ¬ (i : Int) + 1 ≤ 4096 := by have := hN.out; omega
        obtain rfl : i = N := by omega
        have hle2 : (n ≤ 4096 → n < (i : Int) + 1) ∧ (4096 < n → 4096 < (i : Int) + 1) := by have := hN.out; omega
        have hle3 := hle2.2 hq
        clear hle hle2
        obtain ⟨a', c', hv, hr, _, _⟩ := recs_of_owns intC_len hown
        subst hv
        go_wp2_with fail
        go_ret
        exact ⟨a', c', rfl, hr, hg⟩
end Go.Proofs.YtglfdnfojpdkjaaGreatDoor
