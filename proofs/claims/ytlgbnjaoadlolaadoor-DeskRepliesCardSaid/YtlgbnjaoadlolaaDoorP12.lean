/- crc.Read of all bytes. -/
import Derived.Test.YtlgbnjaoadlolaaDoorP11
namespace Go.Proofs.YtlgbnjaoadlolaaDoor
open Go.RowKit

theorem BytesAt.mk {w : World} {b off : Nat} {l : List UInt8} (h : ∀ i d, l[i]? = some d → b < w.heap.size ∧ w.cell? ⟨b, off + i, none⟩ = some (.int .u8 (d.toNat : Int))) : BytesAt w (some ⟨b, off, none⟩) l := by
  intro i d hi
  refine ⟨b, off, rfl, (h i d hi).1, fun j u hu => ?_⟩
  obtain ⟨rfl, rfl⟩ : j = 0 ∧ u = .int .u8 (d.toNat : Int) := by
    cases j with
    | zero => simp at hu; exact ⟨rfl, hu.symm⟩
    | succ j => simp at hu
  rw [Nat.mul_one, Nat.add_zero]
  exact (h i d hi).2
theorem BytesAt.at' {w : World} {b off : Nat} {l : List UInt8} (h : BytesAt w (some ⟨b, off, none⟩) l) {i : Nat} {d : UInt8} (hd : l[i]? = some d) : b < w.heap.size ∧ w.cell? ⟨b, off + i, none⟩ = some (.int .u8 (d.toNat : Int)) := by
  obtain ⟨b', off', hn, hb, hc⟩ := h.get hd
  cases hn
  exact ⟨hb, hc⟩
theorem BytesAt.take {w : World} {b off : Nat} {l : List UInt8} (h : BytesAt w (some ⟨b, off, none⟩) l) (k : Nat) : BytesAt w (some ⟨b, off, none⟩) (l.take k) := BytesAt.mk fun i d hi => by
  rw [List.getElem?_take] at hi
  split at hi
  · exact h.at' hi
  · cases hi
theorem BytesAt.drop {w : World} {b off : Nat} {l : List UInt8} (h : BytesAt w (some ⟨b, off, none⟩) l) (k : Nat) : BytesAt w (some ⟨b, off + k, none⟩) (l.drop k) := BytesAt.mk fun i d hi => by
  rw [List.getElem?_drop] at hi
  rw [Nat.add_assoc]
  exact h.at' hi

theorem un32_inj {a b c d e f g h : UInt8} (he : un32 [a, b, c, d] = un32 [e, f, g, h]) : [a, b, c, d] = [e, f, g, h] := by
  replace he : a.toNat + 256 * b.toNat + 65536 * c.toNat + 16777216 * d.toNat = e.toNat + 256 * f.toNat + 65536 * g.toNat + 16777216 * h.toNat := he
  have := a.toNat_lt; have := b.toNat_lt; have := c.toNat_lt; have := d.toNat_lt
  have := e.toNat_lt; have := f.toNat_lt; have := g.toNat_lt; have := h.toNat_lt
  have q0 : a = e := UInt8.toNat.inj (by omega)
  have q1 : b = f := UInt8.toNat.inj (by omega)
  have q2 : c = g := UInt8.toNat.inj (by omega)
  have q3 : d = h := UInt8.toNat.inj (by omega)
  rw [q0, q1, q2, q3]
theorem le32_un32 (a b c d : UInt8) : le32 (un32 [a, b, c, d]) = [a, b, c, d] := by
  refine un32_inj ?_
  have := un32_le32 (un32_lt [a, b, c, d]) []
  rwa [List.append_nil] at this

set_option maxHeartbeats 1600000 in
theorem read_short (w : World) (a : Option Addr) (c n : Nat) (hl : n < 4) :
    Calls Tryd.prog 51 #[.slice a n c] w fun e w' => e = .returned (.tuple #[.slice none 0 0, .int .i64 0, .nilIface]) ∧ Gr w w' := by
  have hl2 : (n : Int) < 4 := by omega
  go_enter Tryd.func51, Tryd.ntmps51
  go_wp2_with fail
  go_ret3
  exact ⟨rfl, Gr.refl w⟩
/-- The length that a frame's head tells. -/
theorem read_head (S : List UInt8) (h : 4 ≤ S.length) : ∃ x0 x1 x2 x3 t, S = x0 :: x1 :: x2 :: x3 :: t := by
  match S, h with
  | x0 :: x1 :: x2 :: x3 :: t, _ => exact ⟨x0, x1, x2, x3, t, rfl⟩
theorem get_at {w : World} {b off : Nat} {S : List UInt8} (hS : BytesAt w (some ⟨b, off, none⟩) S) {i n c : Nat} {x0 x1 x2 x3 : UInt8} {t : List UInt8} (hd : S.drop i = x0 :: x1 :: x2 :: x3 :: t) (hn : 4 ≤ n) :
    Calls Tryd.prog 66 #[.slice (some ⟨b, off + i, none⟩) n c] w fun e w' => e = .returned (.int .u32 (un32 [x0, x1, x2, x3])) ∧ Gr w w' := by
  have hh := hS.drop i
  rw [hd] at hh
  exact get_any w b (off + i) n c x0 x1 x2 x3 hn (hh.at' (i := 0) rfl).2 (hh.at' (i := 1) rfl).2 (hh.at' (i := 2) rfl).2 (hh.at' (i := 3) rfl).2
set_option maxHeartbeats 1600000 in
theorem read_large {G : List Nat} {E : Nat → Addr} (w : World) (b off c : Nat) (S : List UInt8) (hS : BytesAt w (some ⟨b, off, none⟩) S) (hE : EAt G E w) (i1 : 3 ∈ G) (x0 x1 x2 x3 : UInt8) (t : List UInt8) (hs : S = x0 :: x1 :: x2 :: x3 :: t) (hn : 32768 < un32 [x0, x1, x2, x3]) :
    Calls Tryd.prog 51 #[.slice (some ⟨b, off, none⟩) S.length c] w fun e w' => e = .returned (.tuple #[.slice none 0 0, .int .i64 0, (Value.iface 137 (.pointer (some (E 3))))]) ∧ Gr w w' := by
  have h4 : 4 ≤ S.length := by rw [hs]; simp
  have hg : Calls Tryd.prog 66 #[.slice (some ⟨b, off, none⟩) S.length c] w fun e w' => e = .returned (.int .u32 (un32 [x0, x1, x2, x3])) ∧ Gr w w' := get_at (i := 0) hS hs h4
  generalize un32 [x0, x1, x2, x3] = n at *
  have hl2 : decide ((S.length : Int) < 4) = false := decide_eq_false (by omega)
  have hn2 : decide ((32768 : Int) < n) = true := decide_eq_true (by omega)
  replace hs := Lib.hid hs
  replace hg := Lib.hid hg
  go_enter Tryd.func51, Tryd.ntmps51
  go_wp2_with fail
  refine (hg.out).mono ?_
  rintro e wa ⟨rfl, ga⟩
  obtain ⟨ca, fa, sa⟩ := ga.cells
  try simp only [size_drewN] at ca fa sa
  try simp only [World.size_alloc] at ca fa sa
  try simp only [World.size_drew] at ca fa sa
  try simp only [World.size_setCell] at ca fa sa
  have he := (hE.gr ga).c0 i1
  clear ca fa
  go_upto_region 5 with fail
  go_region
  go_wp2_with fail
  go_ret3
  exact ⟨rfl, (by repeat (first | exact Gr.refl _ | apply Gr.alloc | apply Gr.drew | apply Gr.drewN | (refine Gr.setCell ?_ (by first | (simp; done) | (simp; omega)) _) | (refine Gr.trans ?_ (by assumption))))⟩
set_option maxHeartbeats 1600000 in
theorem read_part (w : World) (b off c : Nat) (S : List UInt8) (hS : BytesAt w (some ⟨b, off, none⟩) S) (x0 x1 x2 x3 : UInt8) (t : List UInt8) (hs : S = x0 :: x1 :: x2 :: x3 :: t) (hn : un32 [x0, x1, x2, x3] ≤ 32768) (hl : S.length < un32 [x0, x1, x2, x3] + 8) :
    Calls Tryd.prog 51 #[.slice (some ⟨b, off, none⟩) S.length c] w fun e w' => e = .returned (.tuple #[.slice none 0 0, .int .i64 0, .nilIface]) ∧ Gr w w' := by
  have h4 : 4 ≤ S.length := by rw [hs]; simp
  have hg : Calls Tryd.prog 66 #[.slice (some ⟨b, off, none⟩) S.length c] w fun e w' => e = .returned (.int .u32 (un32 [x0, x1, x2, x3])) ∧ Gr w w' := get_at (i := 0) hS hs h4
  generalize un32 [x0, x1, x2, x3] = n at *
  have hl2 : decide ((S.length : Int) < 4) = false := decide_eq_false (by omega)
  have hn2 : decide ((32768 : Int) < n) = false := decide_eq_false (by omega)
  have hn4 : (S.length : Int) - (4 + n) < 4 := by omega
  replace hs := Lib.hid hs
  replace hg := Lib.hid hg
  go_enter Tryd.func51, Tryd.ntmps51
  go_wp2_with fail
  refine (hg.out).mono ?_
  rintro e wa ⟨rfl, ga⟩
  obtain ⟨ca, fa, sa⟩ := ga.cells
  try simp only [size_drewN] at ca fa sa
  try simp only [World.size_alloc] at ca fa sa
  try simp only [World.size_drew] at ca fa sa
  try simp only [World.size_setCell] at ca fa sa
  go_wp2_with fail
  go_ret3
  exact ⟨rfl, ga⟩
set_option maxRecDepth 100000 in
set_option maxHeartbeats 1600000 in
/-- The sum is reckoned and held against the frame's. -/
theorem read_sum {G : List Nat} {E : Nat → Addr} (w : World) (b off c : Nat) (S : List UInt8) (hS : BytesAt w (some ⟨b, off, none⟩) S) (hE : EAt G E w) (i1 : 4 ∈ G) (x0 x1 x2 x3 y0 y1 y2 y3 : UInt8) (t r : List UInt8) (hs : S = x0 :: x1 :: x2 :: x3 :: t) (n : Nat) (hx : un32 [x0, x1, x2, x3] = n) (hn : n ≤ 32768) (hl : n + 8 ≤ S.length) (hc : S.length ≤ c) (hm : S.length ≤ maxLen) (hy : S.drop (4 + n) = y0 :: y1 :: y2 :: y3 :: r) (hq : crc (S.take (4 + n)) ≠ un32 [y0, y1, y2, y3]) :
    Calls Tryd.prog 51 #[.slice (some ⟨b, off, none⟩) S.length c] w fun e w' => e = .returned (.tuple #[.slice none 0 0, .int .i64 0, (Value.iface 137 (.pointer (some (E 4))))]) ∧ Gr w w' := by
  have h4 : 4 ≤ S.length := by omega
  have hg : Calls Tryd.prog 66 #[.slice (some ⟨b, off, none⟩) S.length c] w fun e w' => e = .returned (.int .u32 n) ∧ Gr w w' := by rw [← hx]; exact get_at (i := 0) hS hs h4
  have hlt : (S.take (4 + n)).length = 4 + n := by rw [List.length_take]; omega
  have hsu := fun w1 (g : Gr w w1) => csum_any (some ⟨b, off, none⟩) c (S.take (4 + n)) w1 ((hS.take _).gr g) (by omega)
  rw [hlt] at hsu
  have hg2 := fun w1 (g : Gr w w1) => get_at (c := c - (4 + n)) (n := S.length - (4 + n)) (hS.gr g) hy (by omega)
  generalize un32 [y0, y1, y2, y3] = u at *
  generalize crc (S.take (4 + n)) = m at *
  have hl2 : decide ((S.length : Int) < 4) = false := decide_eq_false (by omega)
  have hn2 : decide ((32768 : Int) < n) = false := decide_eq_false (by omega)
  have hn4 : decide ((S.length : Int) - (4 + n) < 4) = false := decide_eq_false (by omega)
  have hmm := hm
  unfold maxLen at hmm
  have hs0 : (0 : Int) ≤ 4 + (n : Int) := by omega
  have hs1 : (4 : Int) + (n : Int) ≤ (c : Int) := by omega
  have hs2 : (4 : Int) + (n : Int) ≤ (S.length : Int) := by omega
  have hst : ((4 : Int) + (n : Int)).toNat = 4 + n := by omega
  have hmu : ((m : Int) == u) = false := beq_eq_false_iff_ne.2 (by omega)
  have hmv : ((m : Int) != u) = true := by rw [bne, hmu]; rfl
  replace hs := Lib.hid hs
  replace hy := Lib.hid hy
  replace hg := Lib.hid hg
  replace hlt := Lib.hid hlt
  replace hsu := Lib.hid hsu
  replace hg2 := Lib.hid hg2
  replace hx := Lib.hid hx
  go_enter Tryd.func51, Tryd.ntmps51
  go_wp2_with fail
  refine (hg.out).mono ?_
  rintro e wa ⟨rfl, ga⟩
  obtain ⟨ca, fa, sa⟩ := ga.cells
  try simp only [size_drewN] at ca fa sa
  try simp only [World.size_alloc] at ca fa sa
  try simp only [World.size_drew] at ca fa sa
  try simp only [World.size_setCell] at ca fa sa
  clear ca fa
  go_wp2_with fail
  go_upto_region 9 with fail
  refine wp_region_grows (by kernel_rfl) (by kernel_rfl) ?_
  repeat (any_goals (first | go_big_quiet_step (first | (exact Calls.grows_same (hsu.out _ (ga.trans (by exact GrW.gr _)))) | (exact Calls.grows (hg2.out _ (ga.trans (by exact GrW.gr _)))) | fail) | quiet_step (first | (exact Calls.grows_same (hsu.out _ (ga.trans (by exact GrW.gr _)))) | (exact Calls.grows (hg2.out _ (ga.trans (by exact GrW.gr _)))) | fail)))
  refine wpQuiet_nil ?_
  intro wz hwq
  have gz := GrW.of hwq
  clear hwq
  obtain ⟨cz, fz, sz⟩ := gz.cells
  try simp only [size_drewN] at cz fz sz
  try simp only [World.size_alloc] at cz fz sz
  try simp only [World.size_drew] at cz fz sz
  try simp only [World.size_setCell] at cz fz sz
  have he := (hE.gr (ga.trans gz)).c0 i1
  clear cz fz
  go_upto_region 10 with fail
  go_region
  go_wp2_with fail
  go_ret3
  exact ⟨rfl, (by repeat (first | exact Gr.refl _ | apply Gr.alloc | apply Gr.drew | apply Gr.drewN | (refine Gr.setCell ?_ (by first | (simp; done) | (simp; omega)) _) | (refine Gr.trans ?_ (by assumption))))⟩
end Go.Proofs.YtlgbnjaoadlolaaDoor
