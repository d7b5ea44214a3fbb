/- Helpers, and the contracts of package wide's small functions. -/
import Derived.Test.YtglfdnfojpdkjaaGreatDoorRows
import Derived.WalkKit
import Derived.Test.YtglfdnfojpdkjaaGreatDoorJ1
import Derived.WalkSpells
import Derived.WalkLawsBesides
import Derived.Lib.Hide
import Derived.BigQuiet
import Derived.Deep.QuietTactic
import Derived.Deep.RegionHeld3
import Derived.Deep.DrawnRows
import Derived.Deep.DeepFit
namespace Go.Proofs.YtglfdnfojpdkjaaGreatDoor
open Go.RowKit

/-- The two words of a number. -/
def hiW (n : Int) : Int := n / 18446744073709551616
def loW (n : Int) : Int := n % 18446744073709551616
theorem word_eq (n : Int) : hiW n * 18446744073709551616 + loW n = n := by unfold hiW loW; omega
theorem loW_bd (n : Int) : 0 ≤ loW n ∧ loW n < 18446744073709551616 := by unfold loW; omega
theorem hiW_bd (n : Int) (h : 0 ≤ n) (h' : n < 340282366920938463463374607431768211456) : 0 ≤ hiW n ∧ hiW n < 18446744073709551616 := by unfold hiW; omega
def Word (x : Int) : Prop := 0 ≤ x ∧ x < 18446744073709551616
def Wide (x : Int) : Prop := 0 ≤ x ∧ x < 340282366920938463463374607431768211456
theorem word_lo (n : Int) : Word (loW n) := loW_bd n
theorem word_hi {n : Int} (h : Wide n) : Word (hiW n) := hiW_bd n h.1 h.2

theorem mul64_hi (x y : Int) (hx : Word x) (hy : Word y) :
    (((x / 4294967296 * (y / 4294967296)) % 18446744073709551616 +
      (((x / 4294967296 * (y % 4294967296)) % 18446744073709551616 + ((x % 4294967296 * (y % 4294967296)) % 18446744073709551616) / 4294967296) % 18446744073709551616) / 4294967296) % 18446744073709551616 +
      (((((x / 4294967296 * (y % 4294967296)) % 18446744073709551616 + ((x % 4294967296 * (y % 4294967296)) % 18446744073709551616) / 4294967296) % 18446744073709551616) % 4294967296 +
        (x % 4294967296 * (y / 4294967296)) % 18446744073709551616) % 18446744073709551616) / 4294967296) % 18446744073709551616 = hiW (x * y) := mul64_arith x y hx.1 hx.2 hy.1 hy.2



set_option maxHeartbeats 400000 in
theorem mul64_any (x y : Int) (w : World) (hx : Word x) (hy : Word y) :
    Calls Tryz.prog 170 #[.int .u64 x, .int .u64 y] w fun e w' => e = .returned (.tuple #[.int .u64 (hiW (x * y)), .int .u64 (loW (x * y))]) ∧ w = w' := by
  have H := mul64_hi x y hx hy
  have H := Lib.hid H
  obtain ⟨h1, h2⟩ := hx
  obtain ⟨h3, h4⟩ := hy
  go_enter Tryz.func170, Tryz.ntmps170
  go_wp2
  go_ret2
  refine ⟨ret2 ?_ ?_, rfl⟩
  · show IntKind.u64.wrap _ = _
    rw [← H.out]
    rw [and_low32 x h1 h2, and_low32 y h3 h4]
    simp only [IntKind.wrap_u64]
    rw [and_low32 _ (by omega) (by omega)]
  · show IntKind.u64.wrap _ = _
    rw [IntKind.wrap_u64]; rfl

theorem add64_run (x y c : Int) (hx : 0 ≤ x) (hy : 0 ≤ y) (hc0 : 0 ≤ c) (hc : c ≤ 1) (w : World) : (callFunc 171 #[.int .u64 x, .int .u64 y, .int .u64 c]).run Tryz.prog w =
    .ok (.value (.tuple #[.int .u64 (loW (x + y + c)), .int .u64 (hiW (x + y + c))])) w := by
  rw [run_callFunc_extern Tryz.func171 (by kernel_rfl) (by kernel_rfl) (by kernel_rfl) (e := add64Entry) (by kernel_rfl), run_add64 x y c hx hy hc0 hc]
  rfl
theorem add64_run0 (x y : Int) (hx : 0 ≤ x) (hy : 0 ≤ y) (w : World) : (callFunc 171 #[.int .u64 x, .int .u64 y, .int .u64 0]).run Tryz.prog w =
    .ok (.value (.tuple #[.int .u64 (loW (x + y)), .int .u64 (hiW (x + y))])) w := by
  simpa using add64_run x y 0 hx hy (Int.le_refl 0) (by decide) w

theorem mul_words (a n : Int) (ha : Wide a) (hn : Word n) (hp : Wide (a * n)) :
    hiW (hiW a * n) = 0 ∧ hiW (loW (hiW a * n) + hiW (loW a * n)) = 0 ∧ loW (loW (hiW a * n) + hiW (loW a * n)) = hiW (a * n) ∧ loW (loW a * n) = loW (a * n) ∧ 0 ≤ hiW (loW a * n) := by
  have ea : a * n = hiW a * n * 18446744073709551616 + loW a * n := by
    conv => lhs; rw [← word_eq a]
    rw [Int.add_mul, Int.mul_assoc, Int.mul_comm 18446744073709551616 n, ← Int.mul_assoc]
  have h1 : 0 ≤ hiW a * n := Int.mul_nonneg (word_hi ha).1 hn.1
  have h2 : 0 ≤ loW a * n := Int.mul_nonneg (word_lo a).1 hn.1
  rw [ea] at hp ⊢
  generalize hiW a * n = p at *
  generalize loW a * n = q at *
  obtain ⟨hp1, hp2⟩ := hp
  unfold hiW loW
  omega

set_option maxHeartbeats 400000 in
/-- wide.Mul, where the product fits. -/
theorem mul_any (a n : Int) (w : World) (ha : Wide a) (hn : Word n) (hp : Wide (a * n)) :
    Calls Tryz.prog 153 #[.agg #[.int .u64 (hiW a), .int .u64 (loW a)], .int .u64 n] w fun e w' => e = .returned (.tuple #[.agg #[.int .u64 (hiW (a * n)), .int .u64 (loW (a * n))], .bool true]) ∧ Gr w w' := by
  obtain ⟨e1, e2, e3, e4, b2⟩ := mul_words a n ha hn hp
  have E3 := Lib.hid e3; clear e3
  have E4 := Lib.hid e4; clear e4
  have b1 := (loW_bd (hiW a * n)).1
  have hl := word_lo a
  have hh := word_hi ha
  go_enter Tryz.func153, Tryz.ntmps153
  go_wp2_with fail
  refine (mul64_any _ _ _ hl hn).mono ?_
  rintro e w' ⟨rfl, rfl⟩
  go_wp2_with fail
  refine (mul64_any _ _ _ hh hn).mono ?_
  rintro e w' ⟨rfl, rfl⟩
  go_wp2_with (simp only [add64_run0 _ _ b1 b2])
  refine bodyPost_ret (v := .tuple #[.agg #[.int .u64 (hiW (a * n)), .int .u64 (loW (a * n))], .bool true]) (by simp [results, Tryz.results153, go_sem, E3.out, E4.out]) rfl ⟨rfl, ?_⟩
  repeat (first | exact Gr.refl _ | apply Gr.alloc)

theorem add_words (a b : Int) (ha : Wide a) (hb : Wide b) (hp : Wide (a + b)) :
    hiW (hiW a + hiW b + hiW (loW a + loW b)) = 0 ∧ loW (hiW a + hiW b + hiW (loW a + loW b)) = hiW (a + b) ∧ loW (loW a + loW b) = loW (a + b) ∧ 0 ≤ hiW (loW a + loW b) ∧ hiW (loW a + loW b) ≤ 1 := by
  obtain ⟨ha1, ha2⟩ := ha
  obtain ⟨hb1, hb2⟩ := hb
  obtain ⟨hp1, hp2⟩ := hp
  unfold hiW loW
  omega

set_option maxHeartbeats 400000 in
/-- wide.Add, where the sum fits. -/
theorem add_any (a b : Int) (w : World) (ha : Wide a) (hb : Wide b) (hp : Wide (a + b)) :
    Calls Tryz.prog 154 #[.agg #[.int .u64 (hiW a), .int .u64 (loW a)], .agg #[.int .u64 (hiW b), .int .u64 (loW b)]] w fun e w' => e = .returned (.tuple #[.agg #[.int .u64 (hiW (a + b)), .int .u64 (loW (a + b))], .bool true]) ∧ Gr w w' := by
  obtain ⟨e1, e2, e3, b2, b3⟩ := add_words a b ha hb hp
  have E2 := Lib.hid e2; clear e2
  have E3 := Lib.hid e3; clear e3
  have l1 := (word_lo a).1
  have l2 := (word_lo b).1
  have l3 := (word_hi ha).1
  have l4 := (word_hi hb).1
  go_enter Tryz.func154, Tryz.ntmps154
  go_wp2_with (first | simp only [add64_run0 _ _ l1 l2] | simp only [add64_run _ _ _ l3 l4 b2 b3])
  refine bodyPost_ret (v := .tuple #[.agg #[.int .u64 (hiW (a + b)), .int .u64 (loW (a + b))], .bool true]) (by simp [results, Tryz.results154, go_sem, E2.out, E3.out]) rfl ⟨rfl, ?_⟩
  repeat (first | exact Gr.refl _ | apply Gr.alloc)

set_option maxHeartbeats 400000 in
theorem of_any (n : Int) (w : World) :
    Calls Tryz.prog 168 #[.int .u64 n] w fun e w' => e = .returned (.agg #[.int .u64 0, .int .u64 n]) ∧ Gr w w' := by
  go_enter Tryz.func168, Tryz.ntmps168
  go_wp2
  refine bodyPost_ret (v := .agg #[.int .u64 0, .int .u64 n]) (by simp [results, Tryz.results168, go_sem]) rfl ⟨rfl, ?_⟩
  repeat (first | exact Gr.refl _ | apply Gr.alloc)

theorem wide_ne (d : Int) (hd : Wide d) (h0 : 0 < d) : 0 < hiW d + loW d ∧ 0 ≤ hiW d ∧ 0 ≤ loW d := by
  have := word_eq d
  have := word_lo d
  have := word_hi hd
  unfold Word at *
  omega

set_option maxHeartbeats 400000 in
theorem legal_any (n d q t : Int) (w : World) (hd : Wide d) (h0 : 0 < d) (hq : 0 ≤ q) (ht : 1 ≤ t) :
    Calls Tryz.prog 169 #[.agg #[.int .u64 (hiW n), .int .u64 (loW n), .int .u64 (hiW d), .int .u64 (loW d)], .int .i64 q, .int .i64 t] w fun e w' => e = .returned (.bool true) ∧ Gr w w' := by
  obtain ⟨hn1, hn2, hn3⟩ := wide_ne d hd h0
  go_enter Tryz.func169, Tryz.ntmps169
  go_wp2
  all_goals (go_ret; exact ⟨rfl, (Gr.refl _).alloc _⟩)

set_option maxHeartbeats 800000 in
/-- wide.Plus, where all fits. -/
theorem plus_any (n d q t : Int) (w : World) (hn : Wide n) (hd : Wide d) (h0 : 0 < d) (hq : 0 ≤ q) (hq' : q ≤ 4294967296) (ht : 1 ≤ t) (ht' : t ≤ 4294967296) (h1 : Wide (n * t + d * q)) (h2 : Wide (d * t)) :
    Calls Tryz.prog 150 #[.agg #[.int .u64 (hiW n), .int .u64 (loW n), .int .u64 (hiW d), .int .u64 (loW d)], .int .i64 q, .int .i64 t] w fun e w' => e = .returned (.tuple #[.agg #[.int .u64 (hiW (n * t + d * q)), .int .u64 (loW (n * t + d * q)), .int .u64 (hiW (d * t)), .int .u64 (loW (d * t))], .bool true]) ∧ Gr w w' := by
  have wq : Word q := ⟨hq, by omega⟩
  have wt : Word t := ⟨by omega, by omega⟩
  have p1 : 0 ≤ n * t := Int.mul_nonneg hn.1 wt.1
  have p2 : 0 ≤ d * q := Int.mul_nonneg hd.1 hq
  have w1 : Wide (n * t) := ⟨p1, by have := h1.2; omega⟩
  have w2 : Wide (d * q) := ⟨p2, by have := h1.2; omega⟩
  go_enter Tryz.func150, Tryz.ntmps150
  go_wp2_with fail
  refine (legal_any n d q t _ hd h0 hq ht).mono ?_
  rintro e wa ⟨rfl, ga⟩
  obtain ⟨ca, fa, sa⟩ := ga.cells
  try simp only [size_drewN] at ca fa sa
  try simp only [World.size_alloc] at ca fa sa
  try simp only [World.size_drew] at ca fa sa
  try simp only [World.size_setCell] at ca fa sa
  have za0 : w.heap.size < wa.heap.size := by omega
  have ya0 : w.heap.size ≤ wa.heap.size := by omega
  have ka0 := fun o => ca (w.heap.size) o (by omega)
  have ja0 := fun o => fa (w.heap.size) o (by omega)
  have za1 : w.heap.size + 1 < wa.heap.size := by omega
  have ka1 := fun o => ca (w.heap.size + 1) o (by omega)
  have ja1 := fun o => fa (w.heap.size + 1) o (by omega)
  go_wp2_with fail
  refine (mul_any n t _ hn wt w1).mono ?_
  rintro e wb ⟨rfl, gb⟩
  obtain ⟨cb, fb, sb⟩ := gb.cells
  try simp only [size_drewN] at cb fb sb
  try simp only [World.size_alloc] at cb fb sb
  try simp only [World.size_drew] at cb fb sb
  try simp only [World.size_setCell] at cb fb sb
  have zb0 : w.heap.size < wb.heap.size := by omega
  have yb0 : w.heap.size ≤ wb.heap.size := by omega
  have kb0 := fun o => cb (w.heap.size) o (by omega)
  have jb0 := fun o => fb (w.heap.size) o (by omega)
  have zb1 : w.heap.size + 1 < wb.heap.size := by omega
  have kb1 := fun o => cb (w.heap.size + 1) o (by omega)
  have jb1 := fun o => fb (w.heap.size + 1) o (by omega)
  go_wp2_with fail
  refine (mul_any d q _ hd wq w2).mono ?_
  rintro e wc ⟨rfl, gc⟩
  obtain ⟨cc, fc, sc⟩ := gc.cells
  try simp only [size_drewN] at cc fc sc
  try simp only [World.size_alloc] at cc fc sc
  try simp only [World.size_drew] at cc fc sc
  try simp only [World.size_setCell] at cc fc sc
  have zc0 : w.heap.size < wc.heap.size := by omega
  have yc0 : w.heap.size ≤ wc.heap.size := by omega
  have kc0 := fun o => cc (w.heap.size) o (by omega)
  have jc0 := fun o => fc (w.heap.size) o (by omega)
  have zc1 : w.heap.size + 1 < wc.heap.size := by omega
  have kc1 := fun o => cc (w.heap.size + 1) o (by omega)
  have jc1 := fun o => fc (w.heap.size + 1) o (by omega)
  have zc2 : wb.heap.size < wc.heap.size := by omega
  have yc2 : wb.heap.size ≤ wc.heap.size := by omega
  have kc2 := fun o => cc (wb.heap.size) o (by omega)
  have jc2 := fun o => fc (wb.heap.size) o (by omega)
  go_wp2_with fail
  refine (add_any (n * t) (d * q) _ w1 w2 h1).mono ?_
  rintro e wd ⟨rfl, gd⟩
  obtain ⟨cd, fd, sd⟩ := gd.cells
  try simp only [size_drewN] at cd fd sd
  try simp only [World.size_alloc] at cd fd sd
  try simp only [World.size_drew] at cd fd sd
  try simp only [World.size_setCell] at cd fd sd
  have zd0 : w.heap.size < wd.heap.size := by omega
  have yd0 : w.heap.size ≤ wd.heap.size := by omega
  have kd0 := fun o => cd (w.heap.size) o (by omega)
  have jd0 := fun o => fd (w.heap.size) o (by omega)
  have zd1 : w.heap.size + 1 < wd.heap.size := by omega
  have kd1 := fun o => cd (w.heap.size + 1) o (by omega)
  have jd1 := fun o => fd (w.heap.size + 1) o (by omega)
  have zd2 : wb.heap.size < wd.heap.size := by omega
  have yd2 : wb.heap.size ≤ wd.heap.size := by omega
  have kd2 := fun o => cd (wb.heap.size) o (by omega)
  have jd2 := fun o => fd (wb.heap.size) o (by omega)
  have zd3 : wc.heap.size < wd.heap.size := by omega
  have yd3 : wc.heap.size ≤ wd.heap.size := by omega
  have kd3 := fun o => cd (wc.heap.size) o (by omega)
  have jd3 := fun o => fd (wc.heap.size) o (by omega)
  go_wp2_with fail
  refine (mul_any d t _ hd wt h2).mono ?_
  rintro e wk ⟨rfl, gk⟩
  obtain ⟨ck, fk, sk⟩ := gk.cells
  try simp only [size_drewN] at ck fk sk
  try simp only [World.size_alloc] at ck fk sk
  try simp only [World.size_drew] at ck fk sk
  try simp only [World.size_setCell] at ck fk sk
  have zk0 : w.heap.size < wk.heap.size := by omega
  have yk0 : w.heap.size ≤ wk.heap.size := by omega
  have kk0 := fun o => ck (w.heap.size) o (by omega)
  have jk0 := fun o => fk (w.heap.size) o (by omega)
  have zk1 : w.heap.size + 1 < wk.heap.size := by omega
  have kk1 := fun o => ck (w.heap.size + 1) o (by omega)
  have jk1 := fun o => fk (w.heap.size + 1) o (by omega)
  have zk2 : wb.heap.size < wk.heap.size := by omega
  have yk2 : wb.heap.size ≤ wk.heap.size := by omega
  have kk2 := fun o => ck (wb.heap.size) o (by omega)
  have jk2 := fun o => fk (wb.heap.size) o (by omega)
  have zk3 : wc.heap.size < wk.heap.size := by omega
  have yk3 : wc.heap.size ≤ wk.heap.size := by omega
  have kk3 := fun o => ck (wc.heap.size) o (by omega)
  have jk3 := fun o => fk (wc.heap.size) o (by omega)
  have zk4 : wd.heap.size < wk.heap.size := by omega
  have yk4 : wd.heap.size ≤ wk.heap.size := by omega
  have kk4 := fun o => ck (wd.heap.size) o (by omega)
  have jk4 := fun o => fk (wd.heap.size) o (by omega)
  go_wp2_with fail
  refine bodyPost_ret (v := .tuple #[.agg #[.int .u64 (hiW (n * t + d * q)), .int .u64 (loW (n * t + d * q)), .int .u64 (hiW (d * t)), .int .u64 (loW (d * t))], .bool true]) (by simp [results, Tryz.results150, go_sem, *]) rfl ⟨rfl, ?_⟩
  repeat (first | exact Gr.refl _ | apply Gr.alloc | apply Gr.drew | apply Gr.drewN | (refine Gr.setCell ?_ (by simp) _) | (refine Gr.trans ?_ (by assumption)))

/-- -1, 0 or 1. -/
def cmpI (x y : Int) : Int := if x < y then -1 else if y < x then 1 else 0
def orI (x y : Int) : Int := if x = 0 then y else x

set_option maxHeartbeats 400000 in
theorem cmp64_any (x y : Int) (w : World) :
    Calls Tryz.prog 178 #[.int .u64 x, .int .u64 y] w fun e w' => e = .returned (.int .i64 (cmpI x y)) ∧ w = w' := by
  unfold cmpI
  go_enter Tryz.func178, Tryz.ntmps178
  go_wp2
  all_goals (go_ret; exact ⟨ret1 (by simp [*]), rfl⟩)

set_option maxHeartbeats 400000 in
theorem or_any (x y : Int) (b : Nat) (w : World) (h0 : w.cell? ⟨b, 0, none⟩ = some (.int .i64 x)) (h1 : w.cell? ⟨b, 1, none⟩ = some (.int .i64 y)) :
    Calls Tryz.prog 177 #[.slice (some ⟨b, 0, none⟩) 2 2] w fun e w' => e = .returned (.int .i64 (orI x y)) ∧ w = w' := by
  unfold orI
  by_cases hx : x = 0
  · subst hx
    rw [if_pos rfl]
    by_cases hy : y = 0
    · subst hy
      go_enter Tryz.func177, Tryz.ntmps177
      go_wp2
      refine wp_loop_rounds 3 ?_
      rw [rounds_succ]
      go_wp2
      rw [rounds_succ]
      go_wp2
      rw [rounds_succ]
      go_wp2
      go_ret
      exact ⟨rfl, rfl⟩
    · have hy' : (y == 0) = false := by simpa using hy
      have hy2 : (y != 0) = true := by simpa using hy
      go_enter Tryz.func177, Tryz.ntmps177
      go_wp2
      refine wp_loop_rounds 3 ?_
      rw [rounds_succ]
      go_wp2
      rw [rounds_succ]
      go_wp2
      go_ret
      exact ⟨rfl, rfl⟩
  · rw [if_neg hx]
    have hy2 : (x != 0) = true := by simpa using hx
    go_enter Tryz.func177, Tryz.ntmps177
    go_wp2
    refine wp_loop_rounds 3 ?_
    rw [rounds_succ]
    go_wp2
    go_ret
    exact ⟨rfl, rfl⟩

set_option maxHeartbeats 800000 in
/-- wide.Compare. -/
theorem compare_any (a b : Int) (w : World) :
    Calls Tryz.prog 172 #[.agg #[.int .u64 (hiW a), .int .u64 (loW a)], .agg #[.int .u64 (hiW b), .int .u64 (loW b)]] w fun e w' => e = .returned (.int .i64 (orI (cmpI (hiW a) (hiW b)) (cmpI (loW a) (loW b)))) ∧ Gr w w' := by
  go_enter Tryz.func172, Tryz.ntmps172
  go_wp2
  go_region_held3 (fun w' => w'.cell? ⟨w.heap.size, 0, none⟩ = some (.int .u64 (hiW a)) ∧ w'.cell? ⟨w.heap.size, 1, none⟩ = some (.int .u64 (loW a)) ∧ w'.cell? ⟨w.heap.size + 1, 0, none⟩ = some (.int .u64 (hiW b)) ∧ w'.cell? ⟨w.heap.size + 1, 1, none⟩ = some (.int .u64 (loW b))) (simp [go_sem, World.cell?_alloc_past])
    (first
      | (go_at_call 178; refine (cmp64_any _ _ _).mono ?_; rintro e w' ⟨rfl, rfl⟩)
      | (go_at_call 177; refine Calls.mono (or_any (cmpI (hiW a) (hiW b)) (cmpI (loW a) (loW b)) _ _ ?_ ?_) ?_; rotate_left 2; rintro e w1 ⟨rfl, rfl⟩; rotate_left 1; simp [go_sem]; simp [go_sem]))
  go_wp2
  go_ret
  refine ⟨rfl, ?_⟩
  repeat (first | exact Gr.refl _ | apply Gr.alloc | apply Gr.drew | apply Gr.drewN | (refine Gr.setCell ?_ (by simp) _) | (refine Gr.trans ?_ (by assumption)))
end Go.Proofs.YtglfdnfojpdkjaaGreatDoor
/- Package plan: CheckServer. -/
namespace Go.Proofs.YtglfdnfojpdkjaaGreatDoor
open Go.RowKit

set_option maxHeartbeats 400000 in
theorem checkServer_yes (k q t : Int) (w : World) (h : (Srv.mk k q t).leg = true) :
    Calls Tryz.prog 111 #[.agg #[.int .i64 k, .int .i64 q, .int .i64 t]] w fun e w' => e = .returned .nilIface ∧ Gr w w' := by
  have h := (Srv.leg_iff _).1 h
  obtain ⟨h1, h2, h3, h4, h5⟩ := h
  dsimp only at h1 h2 h3 h4 h5
  go_enter Tryz.func111, Tryz.ntmps111
  go_wp2
  go_ret
  exact ⟨rfl, (Gr.refl _).alloc _⟩

set_option maxHeartbeats 400000 in
theorem checkServer_no {G : List Nat} {E : Nat → Addr} (k q t : Int) (w : World) (hE : EAt G E w) (i0 : 4 ∈ G) (h : (Srv.mk k q t).leg = false) :
    Calls Tryz.prog 111 #[.agg #[.int .i64 k, .int .i64 q, .int .i64 t]] w fun e w' => e = .returned (Value.iface 258 (.pointer (some (E 4)))) ∧ Gr w w' := by
  have h : ¬ (1 ≤ k ∧ k ≤ 3 ∧ 1 ≤ q ∧ q ≤ t ∧ t ≤ 256) := fun x => by rw [(Srv.leg_iff _).2 x] at h; cases h
  have hc := hE.c0 i0
  have hl := hE.lt 4 i0
  by_cases h1 : k < 1 ∨ 3 < k ∨ q < 1 ∨ t < q
  all_goals
    go_enter Tryz.func111, Tryz.ntmps111
    go_wp2
  all_goals (go_ret; exact ⟨rfl, (Gr.refl _).alloc _⟩)
end Go.Proofs.YtglfdnfojpdkjaaGreatDoor
/- almonernum.Num: the number of a sentinel. -/
namespace Go.Proofs.YtglfdnfojpdkjaaGreatDoor
open Go.RowKit

end Go.Proofs.YtglfdnfojpdkjaaGreatDoor
