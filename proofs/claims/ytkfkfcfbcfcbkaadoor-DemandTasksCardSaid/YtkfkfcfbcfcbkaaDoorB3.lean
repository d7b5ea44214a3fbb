/- The law DemandGrows. -/
import Derived.Test.YtkfkfcfbcfcbkaaDoorB2
import Derived.Test.YtkfkfcfbcfcbkaaDoorA6
namespace Go.Proofs.YtkfkfcfbcfcbkaaDoor
open Go.RowKit

theorem div_mono {a b t : Int} (h : a ≤ b) (ht : 1 ≤ t) : a / t ≤ b / t := Int.ediv_le_ediv (by omega) h
theorem up_mono {a b t : Int} (h : a ≤ b) (ht : 1 ≤ t) : upI a t ≤ upI b t := by unfold upI; exact div_mono (by omega) ht

theorem asked_grows {s : Srv} (hs : Leg s) {l : Int} : askedI s l ≤ askedI s (l + 1) := by
  obtain ⟨_, _, h3, h4, h5⟩ := hs
  have ht : 1 ≤ s.t := by omega
  have m1 := mul_mono (div_mono (show l ≤ l + 1 by omega) ht) (show 0 ≤ s.q by omega)
  unfold askedI
  by_cases hk : s.k = 3
  · rw [if_pos hk, if_pos hk]
    have e1 := Int.mul_ediv_add_emod l s.t
    have e2 := Int.mul_ediv_add_emod (l + 1) s.t
    have l1 := Int.emod_lt_of_pos l (show 0 < s.t by omega)
    have l2 := Int.emod_lt_of_pos (l + 1) (show 0 < s.t by omega)
    have n1 := Int.emod_nonneg l (show s.t ≠ 0 by omega)
    have n2 := Int.emod_nonneg (l + 1) (show s.t ≠ 0 by omega)
    have hc := div_add_le (a := l) (b := 1) ht
    have h1t : (1 : Int) / s.t ≤ 1 := Int.ediv_le_self _ (by decide)
    have h0t : 0 ≤ (1 : Int) / s.t := Int.ediv_nonneg (by decide) (by omega)
    have hcases : (l + 1) / s.t = l / s.t ∨ l / s.t + 1 ≤ (l + 1) / s.t := by omega
    rcases hcases with h | h
    · rw [h] at e2 ⊢; omega
    · have m2 := mul_mono h (show 0 ≤ s.q by omega)
      rw [Int.add_mul, Int.one_mul] at m2
      omega
  · rw [if_neg hk, if_neg hk]; exact m1
theorem req_grows {s : Srv} (hs : Leg s) {l : Int} : reqI s l ≤ reqI s (l + 1) := by
  obtain ⟨_, _, h3, h4, h5⟩ := hs
  have m1 := mul_mono (up_mono (show l ≤ l + 1 by omega) (show 1 ≤ s.t by omega)) (show 0 ≤ s.q by omega)
  unfold reqI
  split <;> split <;> omega

/-- The demand less a budget is at most the share of the length. -/
theorem asked_share {s : Srv} (hs : Leg s) {l : Int} : (askedI s l - (if s.k = 3 then s.q else 0)) * s.t ≤ s.q * l := by
  obtain ⟨_, _, h3, h4, h5⟩ := hs
  have h1 : (l / s.t * s.q) * s.t ≤ s.q * l := by
    rw [Int.mul_comm (l / s.t), Int.mul_assoc]
    exact Int.mul_le_mul_of_nonneg_left (Int.ediv_mul_le l (by omega)) (by omega)
  unfold askedI
  by_cases hk : s.k = 3
  · rw [if_pos hk, if_pos hk]
    have : l / s.t * s.q + min s.q (l % s.t) - s.q ≤ l / s.t * s.q := by omega
    exact Int.le_trans (mul_mono this (by omega)) h1
  · rw [if_neg hk, if_neg hk, Int.sub_zero]; exact h1

theorem asked_low {s : Srv} (hs : Leg s) {l : Int} (h0 : 0 ≤ l) (h1 : l ≤ 1073741823) :
    -65536 ≤ (askedI s l - (if s.k = 3 then s.q else 0)) * s.t ∧ 0 ≤ s.q * l ∧ s.q * l ≤ 274877906688 ∧ 0 ≤ askedI s l ∧ askedI s l ≤ 1073742079 := by
  have ht := hs
  obtain ⟨_, _, h3, h4, h5⟩ := hs
  have q := quo_mul_le h0 (show 0 ≤ s.q by omega) (show 1 ≤ s.t by omega) h4
  have m := Int.emod_nonneg l (show s.t ≠ 0 by omega)
  have a1 : 0 ≤ askedI s l ∧ askedI s l ≤ 1073742079 := by unfold askedI; split <;> omega
  have e : -256 ≤ askedI s l - (if s.k = 3 then s.q else 0) := by split <;> omega
  have p1 := mul_mono e (show 0 ≤ s.t by omega)
  have p2 := mul_bd (show 0 ≤ s.q by omega) (show s.q ≤ 256 by omega) h0 h1
  exact ⟨by omega, p2.1, by omega, a1.1, a1.2⟩

theorem chkS_mem {l : List Srv} {n : Int} {g : Nat} (h : chkS l n = some g) : g ∈ errNos := by
  unfold chkS at h
  split at h
  · obtain rfl := Option.some.inj h; decide
  · split at h
    · obtain rfl := Option.some.inj h; decide
    · split at h
      · obtain rfl := Option.some.inj h; decide
      · cases h
theorem chkS_of {l : List Srv} {n m : Int} (hn : LenOk n) (hm : LenOk m) : chkS l n = chkS l m := by
  unfold LenOk at hn hm
  unfold chkS
  split
  · rfl
  · split
    · rfl
    · rw [if_neg (by omega), if_neg (by omega)]

set_option maxHeartbeats 1600000 in
theorem demandGrows_walk {G : List Nat} {E : Nat → Addr} (a : Option Addr) (l : List Srv) (c : Nat) (n : Int) (w : World) (hE : EAt G E w) (hG : ∀ x ∈ errNos, x ∈ G) (hl : SrvsAt w a l) (hm : l.length ≤ maxLen) :
    Calls Tryd.prog 8 #[.slice a l.length c, .int .i64 n] w fun e w' => e = .returned (.bool true) ∧ Gr w w' := by
  have i0 := hG 0 (by decide)
  have i3 := hG 3 (by decide)
  have i2 := hG 2 (by decide)
  have mn := mask30 n
  have on : LenOk (bits .and .i64 n 1073741823) := ⟨by omega, by omega⟩
  have on1 : LenOk (bits .and .i64 n 1073741823 + 1) := ⟨by omega, by omega⟩
  have same := chkS_of (l := l) on1 on
  cases hc : chkS l (bits .and .i64 n 1073741823)
  · replace hc := Lib.hid hc
    rw [hc.out] at same
    replace same := Lib.hid same
    obtain ⟨h1, h8, _⟩ := chkS_none hc.out
    replace h1 := Lib.hid h1
    have hLeg : ∀ s ∈ l, Leg s := fun s hs => (Srv.leg_iff _).1 (List.all_eq_true.1 h1.out s hs)
    have le1 := sumI_le (fun s => askedI s (bits .and .i64 n 1073741823)) (fun s => askedI s (bits .and .i64 n 1073741823 + 1)) l (fun s hs => asked_grows (hLeg s hs))
    have le2 := sumI_le (fun s => reqI s (bits .and .i64 n 1073741823)) (fun s => reqI s (bits .and .i64 n 1073741823 + 1)) l (fun s hs => req_grows (hLeg s hs))
    have le3 := sumI_le (fun s => askedI s (bits .and .i64 n 1073741823)) (fun s => reqI s (bits .and .i64 n 1073741823)) l (fun s hs => asked_le_req (hLeg s hs) mn.1)
    replace hLeg := Lib.hid hLeg
    go_enter Tryd.func8, Tryd.ntmps8
    go_wp2_with fail
    refine (alive11 _).mono ?_
    rintro e wa ⟨rfl, ga⟩
    obtain ⟨ca, fa, sa⟩ := ga.cells
    try simp only [World.size_alloc] at ca fa sa
    try simp only [World.size_drew] at ca fa sa
    try simp only [World.size_setCell] at ca fa sa
    go_wp2_with fail
    refine (dservers_yes a l c _ _ (hl.gr ga) hc.out).mono ?_
    rintro e wb ⟨rfl, gb⟩
    obtain ⟨cb, fb, sb⟩ := gb.cells
    try simp only [World.size_alloc] at cb fb sb
    try simp only [World.size_drew] at cb fb sb
    try simp only [World.size_setCell] at cb fb sb
    go_wp2_with fail
    refine (dservers_yes a l c _ _ ((hl.gr ga).gr gb) same.out).mono ?_
    rintro e wd ⟨rfl, gd⟩
    obtain ⟨cd, fd, sd⟩ := gd.cells
    try simp only [World.size_alloc] at cd fd sd
    try simp only [World.size_drew] at cd fd sd
    try simp only [World.size_setCell] at cd fd sd
    go_wp2_with fail
    refine (drequests_yes a l c _ _ (((hl.gr ga).gr gb).gr gd) hc.out).mono ?_
    rintro e we ⟨rfl, ge⟩
    obtain ⟨ce, fe, se⟩ := ge.cells
    try simp only [World.size_alloc] at ce fe se
    try simp only [World.size_drew] at ce fe se
    try simp only [World.size_setCell] at ce fe se
    go_wp2_with fail
    refine (drequests_yes a l c _ _ ((((hl.gr ga).gr gb).gr gd).gr ge) same.out).mono ?_
    rintro e wf ⟨rfl, gf⟩
    obtain ⟨cf, ff, sf⟩ := gf.cells
    try simp only [World.size_alloc] at cf ff sf
    try simp only [World.size_drew] at cf ff sf
    try simp only [World.size_setCell] at cf ff sf
    go_wp2_with fail
    have gf0 : Gr w wf := (((ga.trans gb).trans gd).trans ge).trans gf
    go_loopw [97, 13] (fun i v wr => ∃ k : Nat, k ≤ l.length ∧ i = .int .i64 k ∧ v = .int .i64 (sumI (fun s => askedI s (bits .and .i64 n 1073741823)) (l.take k)) ∧ Gr w wr) (fun i _ _ => l.length - (intOf i).toNat)
    case atStart => exact ⟨0, Nat.zero_le _, rfl, rfl, gf0⟩
    case round =>
      obtain ⟨k, hk, rfl, rfl, hg⟩ := hrel
      by_cases hlt : k < l.length
      · obtain ⟨s, hs⟩ := get_some l k hlt
        obtain ⟨b, off, rfl, hb, c0, c1, c2⟩ := (hl.gr hg) k s hs
        have hleg := hLeg.out s (get_mem hs)
        have hok := chk1_none ((Srv.leg_iff s).2 hleg) on
        replace hok := Lib.hid hok
        have bd := asked_bd hleg on
        have sb := sumI_bd (fun s => askedI s (bits .and .i64 n 1073741823)) (l.take k) (1099511627776 + 256) (fun x hx => asked_bd (hLeg.out x (List.mem_of_mem_take hx)) on)
        have sl : (List.take k l).length ≤ 8 := by rw [List.length_take]; omega
        have sb2 : sumI (fun s => askedI s (bits .and .i64 n 1073741823)) (l.take k) ≤ 8 * (1099511627776 + 256) := by omega
        have sb1 := sb.1
        have hsn : sumI (fun s => askedI s (bits .and .i64 n 1073741823)) (l.take (k + 1)) = sumI (fun s => askedI s (bits .and .i64 n 1073741823)) (l.take k) + askedI s (bits .and .i64 n 1073741823) := by rw [take_snoc hs, sumI_snoc]
        replace hsn := Lib.hid hsn
        have sh := asked_share hleg (l := bits .and .i64 n 1073741823)
        have xb := asked_low hleg mn.1 mn.2
        clear sb sl le1 le2 le3
        generalize sumI (fun s => askedI s (bits .and .i64 n 1073741823)) (l.take k) = m at *
        have hleg2 := hleg
        obtain ⟨k1, k2, k3, k4, k5⟩ := hleg
        go_wp2_with fail
        refine (server_yes s _ _ hok.out).mono ?_
        rintro e wm ⟨rfl, gm⟩
        obtain ⟨cm, fm, sm⟩ := gm.cells
        try simp only [World.size_alloc] at cm fm sm
        try simp only [World.size_drew] at cm fm sm
        try simp only [World.size_setCell] at cm fm sm
        have zm0 : wr.heap.size < wm.heap.size := by omega
        have ym0 : wr.heap.size ≤ wm.heap.size := by omega
        have km0 := fun o => cm (wr.heap.size) o (by omega)
        have jm0 := fun o => fm (wr.heap.size) o (by omega)
        have q1 := cm wr.heap.size 1 (by omega)
        have q2 := cm wr.heap.size 2 (by omega)
        by_cases hk3 : s.k = 3
        · have hk' : (s.k == 3) = true := by simpa using hk3
          rw [if_pos hk3] at sh xb
          clear hk3 on on1
          generalize askedI s (bits .and .i64 n 1073741823) = x at *
          go_wp2_with fail
          go_roundw
          case rel =>
            refine ⟨k + 1, by omega, by go_num, by rw [hsn.out], ?_⟩
            repeat (first | exact Gr.refl _ | apply Gr.alloc | apply Gr.drew | apply Gr.drewN | (refine Gr.setCell ?_ (by simp) _) | (refine Gr.trans ?_ (by assumption)))
          case measure => simp [intOf]; omega
        · have hk' : (s.k == 3) = false := by simpa using hk3
          rw [if_neg hk3, Int.sub_zero] at sh xb
          clear hk3 on on1
          generalize askedI s (bits .and .i64 n 1073741823) = x at *
          go_wp2_with fail
          go_roundw
          case rel =>
            refine ⟨k + 1, by omega, by go_num, by rw [hsn.out], ?_⟩
            repeat (first | exact Gr.refl _ | apply Gr.alloc | apply Gr.drew | apply Gr.drewN | (refine Gr.setCell ?_ (by simp) _) | (refine Gr.trans ?_ (by assumption)))
          case measure => simp [intOf]; omega
      · have hall : l.take k = l := List.take_of_length_le (by omega)
        rw [hall]
        go_wp2_with fail
        go_ret
        exact ⟨retb (by simp), hg⟩
  · rename_i g
    have hg := chkS_mem hc
    rw [hc] at same
    replace hc := Lib.hid hc
    replace same := Lib.hid same
    go_enter Tryd.func8, Tryd.ntmps8
    go_wp2_with fail
    refine (alive11 _).mono ?_
    rintro e wa ⟨rfl, ga⟩
    obtain ⟨ca, fa, sa⟩ := ga.cells
    try simp only [World.size_alloc] at ca fa sa
    try simp only [World.size_drew] at ca fa sa
    try simp only [World.size_setCell] at ca fa sa
    have ea := hE.gr ga
    go_wp2_with fail
    refine (dservers_no a l c _ _ ea i0 i3 i2 (hl.gr ga) hm g hc.out).mono ?_
    rintro e wb ⟨rfl, gb⟩
    obtain ⟨cb, fb, sb⟩ := gb.cells
    try simp only [World.size_alloc] at cb fb sb
    try simp only [World.size_drew] at cb fb sb
    try simp only [World.size_setCell] at cb fb sb
    have eb := ea.gr gb
    go_wp2_with fail
    refine (dservers_no a l c _ _ eb i0 i3 i2 ((hl.gr ga).gr gb) hm g same.out).mono ?_
    rintro e wd ⟨rfl, gd⟩
    obtain ⟨cd, fd, sd⟩ := gd.cells
    try simp only [World.size_alloc] at cd fd sd
    try simp only [World.size_drew] at cd fd sd
    try simp only [World.size_setCell] at cd fd sd
    have ed := eb.gr gd
    go_wp2_with fail
    refine (drequests_no a l c _ _ ed i0 i3 i2 (((hl.gr ga).gr gb).gr gd) hm g hc.out).mono ?_
    rintro e we ⟨rfl, ge⟩
    obtain ⟨ce, fe, se⟩ := ge.cells
    try simp only [World.size_alloc] at ce fe se
    try simp only [World.size_drew] at ce fe se
    try simp only [World.size_setCell] at ce fe se
    have ee := ed.gr ge
    go_wp2_with fail
    refine (drequests_no a l c _ _ ee i0 i3 i2 ((((hl.gr ga).gr gb).gr gd).gr ge) hm g same.out).mono ?_
    rintro e wf ⟨rfl, gf⟩
    obtain ⟨cf, ff, sf⟩ := gf.cells
    try simp only [World.size_alloc] at cf ff sf
    try simp only [World.size_drew] at cf ff sf
    try simp only [World.size_setCell] at cf ff sf
    have ef := ee.gr gf
    go_wp2_with fail
    refine (num_any g _ ef hG hg).mono ?_
    rintro e wg ⟨rfl, gg⟩
    obtain ⟨cg, fg, sg⟩ := gg.cells
    try simp only [World.size_alloc] at cg fg sg
    try simp only [World.size_drew] at cg fg sg
    try simp only [World.size_setCell] at cg fg sg
    have eg := ef.gr gg
    go_wp2_with fail
    refine (num_any g _ eg hG hg).mono ?_
    rintro e wh ⟨rfl, gh⟩
    obtain ⟨ch, fh, sh⟩ := gh.cells
    try simp only [World.size_alloc] at ch fh sh
    try simp only [World.size_drew] at ch fh sh
    try simp only [World.size_setCell] at ch fh sh
    have eh := eg.gr gh
    go_wp2_with fail
    refine (num_any g _ eh hG hg).mono ?_
    rintro e wi ⟨rfl, gi⟩
    obtain ⟨ci, fi, si⟩ := gi.cells
    try simp only [World.size_alloc] at ci fi si
    try simp only [World.size_drew] at ci fi si
    try simp only [World.size_setCell] at ci fi si
    have ei := eh.gr gi
    go_wp2_with fail
    refine (num_any g _ ei hG hg).mono ?_
    rintro e wj ⟨rfl, gj⟩
    obtain ⟨cj, fj, sj⟩ := gj.cells
    try simp only [World.size_alloc] at cj fj sj
    try simp only [World.size_drew] at cj fj sj
    try simp only [World.size_setCell] at cj fj sj
    have ej := ei.gr gj
    go_wp2_with fail
    refine (num_any g _ ej hG hg).mono ?_
    rintro e wk ⟨rfl, gk⟩
    obtain ⟨ck, fk, sk⟩ := gk.cells
    try simp only [World.size_alloc] at ck fk sk
    try simp only [World.size_drew] at ck fk sk
    try simp only [World.size_setCell] at ck fk sk
    have ek := ej.gr gk
    go_wp2_with fail
    refine (num_any g _ ek hG hg).mono ?_
    rintro e wm ⟨rfl, gm⟩
    obtain ⟨cm, fm, sm⟩ := gm.cells
    try simp only [World.size_alloc] at cm fm sm
    try simp only [World.size_drew] at cm fm sm
    try simp only [World.size_setCell] at cm fm sm
    go_wp2_with fail
    go_ret
    refine ⟨rfl, ?_⟩
    repeat (first | exact Gr.refl _ | apply Gr.alloc | apply Gr.drew | apply Gr.drewN | (refine Gr.setCell ?_ (by simp) _) | (refine Gr.trans ?_ (by assumption)))
end Go.Proofs.YtkfkfcfbcfcbkaaDoor
