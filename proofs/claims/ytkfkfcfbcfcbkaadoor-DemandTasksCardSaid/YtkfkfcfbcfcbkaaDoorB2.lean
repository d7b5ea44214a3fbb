/- The law DemandSplits. -/
import Derived.Test.YtkfkfcfbcfcbkaaDoorD2
import Derived.Test.YtkfkfcfbcfcbkaaDoorA5
namespace Go.Proofs.YtkfkfcfbcfcbkaaDoor
open Go.RowKit

theorem div_add_le {a b t : Int} (ht : 1 ≤ t) : a / t + b / t ≤ (a + b) / t ∧ (a + b) / t ≤ a / t + b / t + 1 := by
  have e1 := Int.mul_ediv_add_emod a t
  have e2 := Int.mul_ediv_add_emod b t
  have l1 := Int.emod_lt_of_pos a (show 0 < t by omega)
  have l2 := Int.emod_lt_of_pos b (show 0 < t by omega)
  have n1 := Int.emod_nonneg a (show t ≠ 0 by omega)
  have n2 := Int.emod_nonneg b (show t ≠ 0 by omega)
  constructor
  · rw [Int.le_ediv_iff_mul_le (by omega), Int.add_mul, Int.mul_comm (a / t), Int.mul_comm (b / t)]; omega
  · have : (a + b) / t < a / t + b / t + 2 := by
      rw [Int.ediv_lt_iff_lt_mul (by omega), Int.add_mul, Int.add_mul, Int.mul_comm (a / t), Int.mul_comm (b / t)]; omega
    omega

theorem up_add_le {a b t : Int} (ht : 1 ≤ t) : upI (a + b) t ≤ upI a t + upI b t := by
  unfold upI
  have e1 := Int.mul_ediv_add_emod (a + t - 1) t
  have e2 := Int.mul_ediv_add_emod (b + t - 1) t
  have n1 := Int.emod_lt_of_pos (a + t - 1) (show 0 < t by omega)
  have n2 := Int.emod_lt_of_pos (b + t - 1) (show 0 < t by omega)
  have : (a + b + t - 1) / t < (a + t - 1) / t + (b + t - 1) / t + 1 := by
    rw [Int.ediv_lt_iff_lt_mul (by omega), Int.add_mul, Int.add_mul, Int.mul_comm ((a + t - 1) / t), Int.mul_comm ((b + t - 1) / t)]; omega
  omega
theorem up_ge_div {a t : Int} (ht : 1 ≤ t) : a / t ≤ upI a t ∧ (a % t ≠ 0 → a / t + 1 ≤ upI a t) := by
  unfold upI
  have e1 := Int.mul_ediv_add_emod a t
  have n1 := Int.emod_nonneg a (show t ≠ 0 by omega)
  constructor
  · rw [Int.le_ediv_iff_mul_le (by omega), Int.mul_comm]; omega
  · intro h
    rw [Int.le_ediv_iff_mul_le (by omega), Int.add_mul, Int.mul_comm (a / t)]; omega
theorem mul_mono {a b q : Int} (h : a ≤ b) (hq : 0 ≤ q) : a * q ≤ b * q := Int.mul_le_mul_of_nonneg_right h hq

/-- Demands are at most requests. -/
theorem asked_le_req {s : Srv} (hs : Leg s) {l : Int} (hl : 0 ≤ l) : askedI s l ≤ reqI s l := by
  obtain ⟨_, _, h3, h4, h5⟩ := hs
  have hu := up_ge_div (a := l) (show 1 ≤ s.t by omega)
  have m1 := mul_mono hu.1 (show 0 ≤ s.q by omega)
  unfold askedI reqI
  by_cases hk : s.k = 3
  · rw [if_pos hk]
    by_cases h0 : 0 < l
    · rw [if_pos ⟨hk, h0⟩]; omega
    · obtain rfl : l = 0 := by omega
      rw [if_neg (fun h => h0 h.2)]
      simp
      simp at m1
      omega
  · rw [if_neg hk, if_neg (fun h => hk h.1)]; exact m1

theorem splits_plain {s : Srv} (hs : Leg s) {a b : Int} (hk : s.k ≠ 3) :
    askedI s a + askedI s b ≤ askedI s (a + b) ∧ reqI s (a + b) ≤ reqI s a + reqI s b := by
  obtain ⟨_, _, h3, h4, h5⟩ := hs
  have h1 := div_add_le (a := a) (b := b) (show 1 ≤ s.t by omega)
  have h2 := up_add_le (a := a) (b := b) (show 1 ≤ s.t by omega)
  have m1 := mul_mono h1.1 (show 0 ≤ s.q by omega)
  have m2 := mul_mono h2 (show 0 ≤ s.q by omega)
  rw [Int.add_mul] at m1 m2
  unfold askedI reqI
  rw [if_neg hk, if_neg hk, if_neg hk, if_neg (fun h => hk h.1), if_neg (fun h => hk h.1), if_neg (fun h => hk h.1)]
  omega

theorem splits_def {s : Srv} (hs : Leg s) {a b : Int} (ha : 0 ≤ a) (hb : 0 ≤ b) (hk : s.k = 3) :
    askedI s (a + b) ≤ askedI s a + askedI s b + s.q ∧ askedI s a + askedI s b ≤ askedI s (a + b) + s.q ∧ reqI s (a + b) ≤ reqI s a + reqI s b := by
  obtain ⟨_, _, h3, h4, h5⟩ := hs
  have ht : 1 ≤ s.t := by omega
  have h1 := div_add_le (a := a) (b := b) ht
  have h2 := up_add_le (a := a) (b := b) ht
  have m2 := mul_mono h2 (show 0 ≤ s.q by omega)
  rw [Int.add_mul] at m2
  have e1 := Int.mul_ediv_add_emod a s.t
  have e2 := Int.mul_ediv_add_emod b s.t
  have e3 := Int.mul_ediv_add_emod (a + b) s.t
  have l1 := Int.emod_lt_of_pos a (show 0 < s.t by omega)
  have l2 := Int.emod_lt_of_pos b (show 0 < s.t by omega)
  have l3 := Int.emod_lt_of_pos (a + b) (show 0 < s.t by omega)
  have n1 := Int.emod_nonneg a (show s.t ≠ 0 by omega)
  have n2 := Int.emod_nonneg b (show s.t ≠ 0 by omega)
  have n3 := Int.emod_nonneg (a + b) (show s.t ≠ 0 by omega)
  have u0 : 0 ≤ upI b s.t * s.q := (up_mul_le hb (show 0 ≤ s.q by omega) ht h4).2.1
  have u1 : 0 ≤ upI a s.t * s.q := (up_mul_le ha (show 0 ≤ s.q by omega) ht h4).2.1
  refine ⟨?_, ?_, ?_⟩
  · unfold askedI
    rw [if_pos hk, if_pos hk, if_pos hk]
    have hc : (a + b) / s.t = a / s.t + b / s.t ∨ (a + b) / s.t = a / s.t + b / s.t + 1 := by omega
    rcases hc with hc | hc
    · rw [hc, Int.add_mul]; omega
    · rw [hc, Int.add_mul, Int.add_mul, Int.one_mul]
      rw [hc, Int.mul_add, Int.mul_add] at e3
      omega
  · unfold askedI
    rw [if_pos hk, if_pos hk, if_pos hk]
    have hc : (a + b) / s.t = a / s.t + b / s.t ∨ (a + b) / s.t = a / s.t + b / s.t + 1 := by omega
    rcases hc with hc | hc
    · rw [hc, Int.add_mul]
      rw [hc, Int.mul_add] at e3
      omega
    · rw [hc, Int.add_mul, Int.add_mul, Int.one_mul]
      omega
  · unfold reqI
    by_cases a0 : 0 < a
    · rw [if_pos ⟨hk, by omega⟩, if_pos ⟨hk, a0⟩]
      split <;> omega
    · obtain rfl : a = 0 := by omega
      rw [Int.zero_add, if_neg (c := s.k = 3 ∧ (0 : Int) < 0) (fun h => by omega)]
      omega

theorem mask30 (n : Int) : 0 ≤ bits .and .i64 n 1073741823 ∧ bits .and .i64 n 1073741823 ≤ 1073741823 := by
  have e : bits .and .i64 n 1073741823 = n % 1073741824 := by
    have h30 : (BitVec.ofInt 64 1073741823).toNat = 2 ^ 30 - 1 := by decide
    have key : (BitVec.ofInt 64 n &&& BitVec.ofInt 64 1073741823).toNat = (n % ((2 ^ 64 : Nat) : Int)).toNat % 2 ^ 30 := by
      rw [BitVec.toNat_and, BitVec.toNat_ofInt, h30, Nat.and_two_pow_sub_one_eq_mod]
    show IntKind.i64.wrap ((BitVec.ofInt 64 n &&& BitVec.ofInt 64 1073741823).toNat : Nat) = n % 1073741824
    rw [key, IntKind.wrap_i64]
    omega
  rw [e]; omega

theorem chk1_bad {s : Srv} (h : s.leg = false) (n : Int) : chk1 s n = some 0 := by unfold chk1; rw [if_pos h]

set_option maxHeartbeats 800000 in
theorem demandSplits_walk {G : List Nat} {E : Nat → Addr} (s : Srv) (a b : Int) (w : World) (hE : EAt G E w) (i0 : 0 ∈ G) (i3 : 3 ∈ G) (i2 : 2 ∈ G) :
    Calls Tryd.prog 6 #[.agg #[.int .i64 s.k, .int .i64 s.q, .int .i64 s.t], .int .i64 a, .int .i64 b] w fun e w' => e = .returned (.bool true) ∧ Gr w w' := by
  have ma := mask30 a
  have mb := mask30 b
  have rl := rlegal_any s
  cases hleg : s.leg
  · have hn := chk1_bad (s := s) hleg
    have hn := Lib.hid hn
    rw [hleg] at rl
    have rl := Lib.hid rl
    have hleg := Lib.hid hleg
    have hE := hE.gr ((Gr.refl w).alloc (.cells #[.int .i64 s.k, .int .i64 s.q, .int .i64 s.t] 27))
    go_enter Tryd.func6, Tryd.ntmps6
    go_wp2_with fail
    refine (alive11 _).mono ?_
    rintro e wa ⟨rfl, ga⟩
    obtain ⟨ca, fa, sa⟩ := ga.cells
    try simp only [World.size_alloc] at ca fa sa
    try simp only [World.size_drew] at ca fa sa
    try simp only [World.size_setCell] at ca fa sa
    have za0 : w.heap.size < wa.heap.size := by omega
    have ya0 : w.heap.size ≤ wa.heap.size := by omega
    have ka0 := fun o => ca (w.heap.size) o (by omega)
    have ja0 := fun o => fa (w.heap.size) o (by omega)
    have ea := hE.gr ga
    go_wp2_with fail
    refine (server_no s _ _ ea i0 i3 i2 _ (hn.out _)).mono ?_
    rintro e wb ⟨rfl, gb⟩
    obtain ⟨cb, fb, sb⟩ := gb.cells
    try simp only [World.size_alloc] at cb fb sb
    try simp only [World.size_drew] at cb fb sb
    try simp only [World.size_setCell] at cb fb sb
    have zb0 : w.heap.size < wb.heap.size := by omega
    have yb0 : w.heap.size ≤ wb.heap.size := by omega
    have kb0 := fun o => cb (w.heap.size) o (by omega)
    have jb0 := fun o => fb (w.heap.size) o (by omega)
    have eb := ea.gr gb
    go_wp2_with fail
    refine (server_no s _ _ eb i0 i3 i2 _ (hn.out _)).mono ?_
    rintro e wc ⟨rfl, gc⟩
    obtain ⟨cc, fc, sc⟩ := gc.cells
    try simp only [World.size_alloc] at cc fc sc
    try simp only [World.size_drew] at cc fc sc
    try simp only [World.size_setCell] at cc fc sc
    have zc0 : w.heap.size < wc.heap.size := by omega
    have yc0 : w.heap.size ≤ wc.heap.size := by omega
    have kc0 := fun o => cc (w.heap.size) o (by omega)
    have jc0 := fun o => fc (w.heap.size) o (by omega)
    have ec := eb.gr gc
    go_wp2_with fail
    refine (server_no s _ _ ec i0 i3 i2 _ (hn.out _)).mono ?_
    rintro e wd ⟨rfl, gd⟩
    obtain ⟨cd, fd, sd⟩ := gd.cells
    try simp only [World.size_alloc] at cd fd sd
    try simp only [World.size_drew] at cd fd sd
    try simp only [World.size_setCell] at cd fd sd
    have zd0 : w.heap.size < wd.heap.size := by omega
    have yd0 : w.heap.size ≤ wd.heap.size := by omega
    have kd0 := fun o => cd (w.heap.size) o (by omega)
    have jd0 := fun o => fd (w.heap.size) o (by omega)
    have ed := ec.gr gd
    go_wp2_with fail
    refine (request_no s _ _ ed i0 i3 i2 _ (hn.out _)).mono ?_
    rintro e wf ⟨rfl, gf⟩
    obtain ⟨cf, ff, sf⟩ := gf.cells
    try simp only [World.size_alloc] at cf ff sf
    try simp only [World.size_drew] at cf ff sf
    try simp only [World.size_setCell] at cf ff sf
    have zf0 : w.heap.size < wf.heap.size := by omega
    have yf0 : w.heap.size ≤ wf.heap.size := by omega
    have kf0 := fun o => cf (w.heap.size) o (by omega)
    have jf0 := fun o => ff (w.heap.size) o (by omega)
    have ef := ed.gr gf
    go_wp2_with fail
    refine (request_no s _ _ ef i0 i3 i2 _ (hn.out _)).mono ?_
    rintro e wg ⟨rfl, gg⟩
    obtain ⟨cg, fg, sg⟩ := gg.cells
    try simp only [World.size_alloc] at cg fg sg
    try simp only [World.size_drew] at cg fg sg
    try simp only [World.size_setCell] at cg fg sg
    have zg0 : w.heap.size < wg.heap.size := by omega
    have yg0 : w.heap.size ≤ wg.heap.size := by omega
    have kg0 := fun o => cg (w.heap.size) o (by omega)
    have jg0 := fun o => fg (w.heap.size) o (by omega)
    have eg := ef.gr gg
    go_wp2_with fail
    refine (request_no s _ _ eg i0 i3 i2 _ (hn.out _)).mono ?_
    rintro e wh ⟨rfl, gh⟩
    obtain ⟨ch, fh, sh⟩ := gh.cells
    try simp only [World.size_alloc] at ch fh sh
    try simp only [World.size_drew] at ch fh sh
    try simp only [World.size_setCell] at ch fh sh
    have zh0 : w.heap.size < wh.heap.size := by omega
    have yh0 : w.heap.size ≤ wh.heap.size := by omega
    have kh0 := fun o => ch (w.heap.size) o (by omega)
    have jh0 := fun o => fh (w.heap.size) o (by omega)
    go_wp2_with fail
    refine (rl.out _).mono ?_
    rintro e wi ⟨rfl, gi⟩
    obtain ⟨ci, fi, si⟩ := gi.cells
    try simp only [World.size_alloc] at ci fi si
    try simp only [World.size_drew] at ci fi si
    try simp only [World.size_setCell] at ci fi si
    have zi0 : w.heap.size < wi.heap.size := by omega
    have yi0 : w.heap.size ≤ wi.heap.size := by omega
    have ki0 := fun o => ci (w.heap.size) o (by omega)
    have ji0 := fun o => fi (w.heap.size) o (by omega)
    go_wp2_with fail
    go_ret
    refine ⟨rfl, ?_⟩
    repeat (first | exact Gr.refl _ | apply Gr.alloc | apply Gr.drew | apply Gr.drewN | (refine Gr.setCell ?_ (by simp) _) | (refine Gr.trans ?_ (by assumption)))
  · have hL : Leg s := (Srv.leg_iff _).1 hleg
    have hok := fun (n : Int) (h : LenOk n) => chk1_none hleg h
    have hok := Lib.hid hok
    clear rl
    have hleg := Lib.hid hleg
    have oa : LenOk (bits .and .i64 a 1073741823) := ⟨by omega, by omega⟩
    have ob : LenOk (bits .and .i64 b 1073741823) := ⟨by omega, by omega⟩
    have oc : LenOk (bits .and .i64 a 1073741823 + bits .and .i64 b 1073741823) := ⟨by omega, by omega⟩
    have b1 := asked_bd hL oa
    have b2 := asked_bd hL ob
    have b3 := asked_bd hL oc
    have b4 := req_bd hL oa
    have b5 := req_bd hL ob
    have b6 := req_bd hL oc
    have o1 := asked_le_req hL ma.1
    have o2 := asked_le_req hL mb.1
    have qb : 1 ≤ s.q ∧ s.q ≤ 256 := ⟨hL.2.2.1, Int.le_trans hL.2.2.2.1 hL.2.2.2.2⟩
    have hk : (s.k ≠ 3 ∧ askedI s (bits .and .i64 a 1073741823) + askedI s (bits .and .i64 b 1073741823) ≤ askedI s (bits .and .i64 a 1073741823 + bits .and .i64 b 1073741823) ∧ reqI s (bits .and .i64 a 1073741823 + bits .and .i64 b 1073741823) ≤ reqI s (bits .and .i64 a 1073741823) + reqI s (bits .and .i64 b 1073741823)) ∨ (s.k = 3 ∧ askedI s (bits .and .i64 a 1073741823 + bits .and .i64 b 1073741823) ≤ askedI s (bits .and .i64 a 1073741823) + askedI s (bits .and .i64 b 1073741823) + s.q ∧ askedI s (bits .and .i64 a 1073741823) + askedI s (bits .and .i64 b 1073741823) ≤ askedI s (bits .and .i64 a 1073741823 + bits .and .i64 b 1073741823) + s.q ∧ reqI s (bits .and .i64 a 1073741823 + bits .and .i64 b 1073741823) ≤ reqI s (bits .and .i64 a 1073741823) + reqI s (bits .and .i64 b 1073741823)) := by
      by_cases hk : s.k = 3
      · exact .inr ⟨hk, splits_def hL ma.1 mb.1 hk⟩
      · exact .inl ⟨hk, splits_plain hL hk⟩
    rcases hk with ⟨hk, h1, h2⟩ | ⟨hk, h1, h2, h3⟩
    · have hk' : (s.k == 3) = false := by simpa using hk
      clear hk
      go_enter Tryd.func6, Tryd.ntmps6
      go_wp2_with fail
      refine (alive11 _).mono ?_
      rintro e wa ⟨rfl, ga⟩
      obtain ⟨ca, fa, sa⟩ := ga.cells
      try simp only [World.size_alloc] at ca fa sa
      try simp only [World.size_drew] at ca fa sa
      try simp only [World.size_setCell] at ca fa sa
      have za0 : w.heap.size < wa.heap.size := by omega
      have ya0 : w.heap.size ≤ wa.heap.size := by omega
      have ka0 := fun o => ca (w.heap.size) o (by omega)
      have ja0 := fun o => fa (w.heap.size) o (by omega)
      go_wp2_with fail
      refine (server_yes s _ _ (hok.out _ oa)).mono ?_
      rintro e wb ⟨rfl, gb⟩
      obtain ⟨cb, fb, sb⟩ := gb.cells
      try simp only [World.size_alloc] at cb fb sb
      try simp only [World.size_drew] at cb fb sb
      try simp only [World.size_setCell] at cb fb sb
      have zb0 : w.heap.size < wb.heap.size := by omega
      have yb0 : w.heap.size ≤ wb.heap.size := by omega
      have kb0 := fun o => cb (w.heap.size) o (by omega)
      have jb0 := fun o => fb (w.heap.size) o (by omega)
      go_wp2_with fail
      refine (server_yes s _ _ (hok.out _ ob)).mono ?_
      rintro e wc ⟨rfl, gc⟩
      obtain ⟨cc, fc, sc⟩ := gc.cells
      try simp only [World.size_alloc] at cc fc sc
      try simp only [World.size_drew] at cc fc sc
      try simp only [World.size_setCell] at cc fc sc
      have zc0 : w.heap.size < wc.heap.size := by omega
      have yc0 : w.heap.size ≤ wc.heap.size := by omega
      have kc0 := fun o => cc (w.heap.size) o (by omega)
      have jc0 := fun o => fc (w.heap.size) o (by omega)
      go_wp2_with fail
      refine (server_yes s _ _ (hok.out _ oc)).mono ?_
      rintro e wd ⟨rfl, gd⟩
      obtain ⟨cd, fd, sd⟩ := gd.cells
      try simp only [World.size_alloc] at cd fd sd
      try simp only [World.size_drew] at cd fd sd
      try simp only [World.size_setCell] at cd fd sd
      have zd0 : w.heap.size < wd.heap.size := by omega
      have yd0 : w.heap.size ≤ wd.heap.size := by omega
      have kd0 := fun o => cd (w.heap.size) o (by omega)
      have jd0 := fun o => fd (w.heap.size) o (by omega)
      go_wp2_with fail
      refine (request_yes s _ _ (hok.out _ oa)).mono ?_
      rintro e wf ⟨rfl, gf⟩
      obtain ⟨cf, ff, sf⟩ := gf.cells
      try simp only [World.size_alloc] at cf ff sf
      try simp only [World.size_drew] at cf ff sf
      try simp only [World.size_setCell] at cf ff sf
      have zf0 : w.heap.size < wf.heap.size := by omega
      have yf0 : w.heap.size ≤ wf.heap.size := by omega
      have kf0 := fun o => cf (w.heap.size) o (by omega)
      have jf0 := fun o => ff (w.heap.size) o (by omega)
      go_wp2_with fail
      refine (request_yes s _ _ (hok.out _ ob)).mono ?_
      rintro e wg ⟨rfl, gg⟩
      obtain ⟨cg, fg, sg⟩ := gg.cells
      try simp only [World.size_alloc] at cg fg sg
      try simp only [World.size_drew] at cg fg sg
      try simp only [World.size_setCell] at cg fg sg
      have zg0 : w.heap.size < wg.heap.size := by omega
      have yg0 : w.heap.size ≤ wg.heap.size := by omega
      have kg0 := fun o => cg (w.heap.size) o (by omega)
      have jg0 := fun o => fg (w.heap.size) o (by omega)
      go_wp2_with fail
      refine (request_yes s _ _ (hok.out _ oc)).mono ?_
      rintro e wh ⟨rfl, gh⟩
      obtain ⟨ch, fh, sh⟩ := gh.cells
      try simp only [World.size_alloc] at ch fh sh
      try simp only [World.size_drew] at ch fh sh
      try simp only [World.size_setCell] at ch fh sh
      have zh0 : w.heap.size < wh.heap.size := by omega
      have yh0 : w.heap.size ≤ wh.heap.size := by omega
      have kh0 := fun o => ch (w.heap.size) o (by omega)
      have jh0 := fun o => fh (w.heap.size) o (by omega)
      generalize askedI s (bits .and .i64 a 1073741823 + bits .and .i64 b 1073741823) = z at *
      generalize askedI s (bits .and .i64 a 1073741823) = x at *
      generalize askedI s (bits .and .i64 b 1073741823) = y at *
      generalize reqI s (bits .and .i64 a 1073741823 + bits .and .i64 b 1073741823) = r at *
      generalize reqI s (bits .and .i64 a 1073741823) = p at *
      generalize reqI s (bits .and .i64 b 1073741823) = q at *
      go_wp2_with fail
      go_ret
      refine ⟨rfl, ?_⟩
      repeat (first | exact Gr.refl _ | apply Gr.alloc | apply Gr.drew | apply Gr.drewN | (refine Gr.setCell ?_ (by simp) _) | (refine Gr.trans ?_ (by assumption)))
    · have hk' : (s.k == 3) = true := by simpa using hk
      clear hk
      go_enter Tryd.func6, Tryd.ntmps6
      go_wp2_with fail
      refine (alive11 _).mono ?_
      rintro e wa ⟨rfl, ga⟩
      obtain ⟨ca, fa, sa⟩ := ga.cells
      try simp only [World.size_alloc] at ca fa sa
      try simp only [World.size_drew] at ca fa sa
      try simp only [World.size_setCell] at ca fa sa
      have za0 : w.heap.size < wa.heap.size := by omega
      have ya0 : w.heap.size ≤ wa.heap.size := by omega
      have ka0 := fun o => ca (w.heap.size) o (by omega)
      have ja0 := fun o => fa (w.heap.size) o (by omega)
      go_wp2_with fail
      refine (server_yes s _ _ (hok.out _ oa)).mono ?_
      rintro e wb ⟨rfl, gb⟩
      obtain ⟨cb, fb, sb⟩ := gb.cells
      try simp only [World.size_alloc] at cb fb sb
      try simp only [World.size_drew] at cb fb sb
      try simp only [World.size_setCell] at cb fb sb
      have zb0 : w.heap.size < wb.heap.size := by omega
      have yb0 : w.heap.size ≤ wb.heap.size := by omega
      have kb0 := fun o => cb (w.heap.size) o (by omega)
      have jb0 := fun o => fb (w.heap.size) o (by omega)
      go_wp2_with fail
      refine (server_yes s _ _ (hok.out _ ob)).mono ?_
      rintro e wc ⟨rfl, gc⟩
      obtain ⟨cc, fc, sc⟩ := gc.cells
      try simp only [World.size_alloc] at cc fc sc
      try simp only [World.size_drew] at cc fc sc
      try simp only [World.size_setCell] at cc fc sc
      have zc0 : w.heap.size < wc.heap.size := by omega
      have yc0 : w.heap.size ≤ wc.heap.size := by omega
      have kc0 := fun o => cc (w.heap.size) o (by omega)
      have jc0 := fun o => fc (w.heap.size) o (by omega)
      go_wp2_with fail
      refine (server_yes s _ _ (hok.out _ oc)).mono ?_
      rintro e wd ⟨rfl, gd⟩
      obtain ⟨cd, fd, sd⟩ := gd.cells
      try simp only [World.size_alloc] at cd fd sd
      try simp only [World.size_drew] at cd fd sd
      try simp only [World.size_setCell] at cd fd sd
      have zd0 : w.heap.size < wd.heap.size := by omega
      have yd0 : w.heap.size ≤ wd.heap.size := by omega
      have kd0 := fun o => cd (w.heap.size) o (by omega)
      have jd0 := fun o => fd (w.heap.size) o (by omega)
      go_wp2_with fail
      refine (request_yes s _ _ (hok.out _ oa)).mono ?_
      rintro e wf ⟨rfl, gf⟩
      obtain ⟨cf, ff, sf⟩ := gf.cells
      try simp only [World.size_alloc] at cf ff sf
      try simp only [World.size_drew] at cf ff sf
      try simp only [World.size_setCell] at cf ff sf
      have zf0 : w.heap.size < wf.heap.size := by omega
      have yf0 : w.heap.size ≤ wf.heap.size := by omega
      have kf0 := fun o => cf (w.heap.size) o (by omega)
      have jf0 := fun o => ff (w.heap.size) o (by omega)
      go_wp2_with fail
      refine (request_yes s _ _ (hok.out _ ob)).mono ?_
      rintro e wg ⟨rfl, gg⟩
      obtain ⟨cg, fg, sg⟩ := gg.cells
      try simp only [World.size_alloc] at cg fg sg
      try simp only [World.size_drew] at cg fg sg
      try simp only [World.size_setCell] at cg fg sg
      have zg0 : w.heap.size < wg.heap.size := by omega
      have yg0 : w.heap.size ≤ wg.heap.size := by omega
      have kg0 := fun o => cg (w.heap.size) o (by omega)
      have jg0 := fun o => fg (w.heap.size) o (by omega)
      go_wp2_with fail
      refine (request_yes s _ _ (hok.out _ oc)).mono ?_
      rintro e wh ⟨rfl, gh⟩
      obtain ⟨ch, fh, sh⟩ := gh.cells
      try simp only [World.size_alloc] at ch fh sh
      try simp only [World.size_drew] at ch fh sh
      try simp only [World.size_setCell] at ch fh sh
      have zh0 : w.heap.size < wh.heap.size := by omega
      have yh0 : w.heap.size ≤ wh.heap.size := by omega
      have kh0 := fun o => ch (w.heap.size) o (by omega)
      have jh0 := fun o => fh (w.heap.size) o (by omega)
      generalize askedI s (bits .and .i64 a 1073741823 + bits .and .i64 b 1073741823) = z at *
      generalize askedI s (bits .and .i64 a 1073741823) = x at *
      generalize askedI s (bits .and .i64 b 1073741823) = y at *
      generalize reqI s (bits .and .i64 a 1073741823 + bits .and .i64 b 1073741823) = r at *
      generalize reqI s (bits .and .i64 a 1073741823) = p at *
      generalize reqI s (bits .and .i64 b 1073741823) = q at *
      go_wp2_with fail
      go_ret
      refine ⟨rfl, ?_⟩
      repeat (first | exact Gr.refl _ | apply Gr.alloc | apply Gr.drew | apply Gr.drewN | (refine Gr.setCell ?_ (by simp) _) | (refine Gr.trans ?_ (by assumption)))
end Go.Proofs.YtkfkfcfbcfcbkaaDoor
