/- crc.Read of all bytes. crc.Read of a frame; a byte that turned; desk.opened. desk.opened and desk.GetAsk of what is no frame. -/
import Derived.Test.YtlgbnjaoadlolaaDoorP11
import Derived.Laws.ResultCell
namespace Go.Proofs.YtlgbnjaoadlolaaDoor
open Go.RowKit

theorem BytesAt.mk {w : World} {b off : Nat} {l : List UInt8} (h : ∀ i d, l[i]? = some d → b < w.heap.size ∧ w.cell? ⟨b, off + i, none⟩ = some (.int .u8 (d.toNat : Int))) : BytesAt w (some ⟨b, off, none⟩) l := by
  intro i d hi
  refine ⟨b, off, rfl, (h i d hi).1, fun j u hu => ?_⟩
  obtain ⟨rfl, rfl⟩ : j = 0 ∧ u = .int .u8 (d.toNat : Int) := by
    cases j with
    | zero => simp at hu; exact ⟨rfl, hu.symm⟩
    | succ j => simp at hu
  rw [Nat.mul_one, Nat.add_zero]
  exact (h i d hi).2
theorem BytesAt.at' {w : World} {b off : Nat} {l : List UInt8} (h : BytesAt w (some ⟨b, off, none⟩) l) {i : Nat} {d : UInt8} (hd : l[i]? = some d) : b < w.heap.size ∧ w.cell? ⟨b, off + i, none⟩ = some (.int .u8 (d.toNat : Int)) := by
  obtain ⟨b', off', hn, hb, hc⟩ := h.get hd
  cases hn
  exact ⟨hb, hc⟩
theorem BytesAt.take {w : World} {b off : Nat} {l : List UInt8} (h : BytesAt w (some ⟨b, off, none⟩) l) (k : Nat) : BytesAt w (some ⟨b, off, none⟩) (l.take k) := BytesAt.mk fun i d hi => by
  rw [List.getElem?_take] at hi
  split at hi
  · exact h.at' hi
  · cases hi
theorem BytesAt.drop {w : World} {b off : Nat} {l : List UInt8} (h : BytesAt w (some ⟨b, off, none⟩) l) (k : Nat) : BytesAt w (some ⟨b, off + k, none⟩) (l.drop k) := BytesAt.mk fun i d hi => by
  rw [List.getElem?_drop] at hi
  rw [Nat.add_assoc]
  exact h.at' hi

theorem un32_inj {a b c d e f g h : UInt8} (he : un32 [a, b, c, d] = un32 [e, f, g, h]) : [a, b, c, d] = [e, f, g, h] := by
  replace he : a.toNat + 256 * b.toNat + 65536 * c.toNat + 16777216 * d.toNat = e.toNat + 256 * f.toNat + 65536 * g.toNat + 16777216 * h.toNat := he
  have := a.toNat_lt; have := b.toNat_lt; have := c.toNat_lt; have := d.toNat_lt
  have := e.toNat_lt; have := f.toNat_lt; have := g.toNat_lt; have := h.toNat_lt
  have q0 : a = e := UInt8.toNat.inj (by omega)
  have q1 : b = f := UInt8.toNat.inj (by omega)
  have q2 : c = g := UInt8.toNat.inj (by omega)
  have q3 : d = h := UInt8.toNat.inj (by omega)
  rw [q0, q1, q2, q3]
theorem le32_un32 (a b c d : UInt8) : le32 (un32 [a, b, c, d]) = [a, b, c, d] := by
  refine un32_inj ?_
  have := un32_le32 (un32_lt [a, b, c, d]) []
  rwa [List.append_nil] at this

set_option maxHeartbeats 1600000 in
theorem read_short (w : World) (a : Option Addr) (c n : Nat) (hl : n < 4) :
    Calls Tryd.prog 51 #[.slice a n c] w fun e w' => e = .returned (.tuple #[.slice none 0 0, .int .i64 0, .nilIface]) ∧ Gr w w' := by
  have hl2 : (n : Int) < 4 := by omega
  go_enter Tryd.func51, Tryd.ntmps51
  go_wp2_with fail
  go_ret3
  exact ⟨rfl, Gr.refl w⟩
/-- The length that a frame's head tells. -/
theorem read_head (S : List UInt8) (h : 4 ≤ S.length) : ∃ x0 x1 x2 x3 t, S = x0 :: x1 :: x2 :: x3 :: t := by
  match S, h with
  | x0 :: x1 :: x2 :: x3 :: t, _ => exact ⟨x0, x1, x2, x3, t, rfl⟩
theorem get_at {w : World} {b off : Nat} {S : List UInt8} (hS : BytesAt w (some ⟨b, off, none⟩) S) {i n c : Nat} {x0 x1 x2 x3 : UInt8} {t : List UInt8} (hd : S.drop i = x0 :: x1 :: x2 :: x3 :: t) (hn : 4 ≤ n) :
    Calls Tryd.prog 66 #[.slice (some ⟨b, off + i, none⟩) n c] w fun e w' => e = .returned (.int .u32 (un32 [x0, x1, x2, x3])) ∧ Gr w w' := by
  have hh := hS.drop i
  rw [hd] at hh
  exact get_any w b (off + i) n c x0 x1 x2 x3 hn (hh.at' (i := 0) rfl).2 (hh.at' (i := 1) rfl).2 (hh.at' (i := 2) rfl).2 (hh.at' (i := 3) rfl).2
set_option maxHeartbeats 1600000 in
theorem read_large {G : List Nat} {E : Nat → Addr} (w : World) (b off c : Nat) (S : List UInt8) (hS : BytesAt w (some ⟨b, off, none⟩) S) (hE : EAt G E w) (i1 : 3 ∈ G) (x0 x1 x2 x3 : UInt8) (t : List UInt8) (hs : S = x0 :: x1 :: x2 :: x3 :: t) (hn : 32768 < un32 [x0, x1, x2, x3]) :
    Calls Tryd.prog 51 #[.slice (some ⟨b, off, none⟩) S.length c] w fun e w' => e = .returned (.tuple #[.slice none 0 0, .int .i64 0, (Value.iface 137 (.pointer (some (E 3))))]) ∧ Gr w w' := by
  have h4 : 4 ≤ S.length := by rw [hs]; simp
  have hg : Calls Tryd.prog 66 #[.slice (some ⟨b, off, none⟩) S.length c] w fun e w' => e = .returned (.int .u32 (un32 [x0, x1, x2, x3])) ∧ Gr w w' := get_at (i := 0) hS hs h4
  generalize un32 [x0, x1, x2, x3] = n at *
  have hl2 : decide ((S.length : Int) < 4) = false := decide_eq_false (by omega)
  have hn2 : decide ((32768 : Int) < n) = true := decide_eq_true (by omega)
  replace hs := Lib.hid hs
  replace hg := Lib.hid hg
  go_enter Tryd.func51, Tryd.ntmps51
  go_wp2_with fail
  refine (hg.out).mono ?_
  rintro e wa ⟨rfl, ga⟩
  obtain ⟨ca, fa, sa⟩ := ga.cells
  try simp only [size_drewN] at ca fa sa
  try simp only [World.size_alloc] at ca fa sa
  try simp only [World.size_drew] at ca fa sa
  try simp only [World.size_setCell] at ca fa sa
  have he := (hE.gr ga).c0 i1
  clear ca fa
  go_upto_region 5 with fail
  go_region
  go_wp2_with fail
  go_ret3
  exact ⟨rfl, (by repeat (first | exact Gr.refl _ | apply Gr.alloc | apply Gr.drew | apply Gr.drewN | (refine Gr.setCell ?_ (by first | (simp; done) | (simp; omega)) _) | (refine Gr.trans ?_ (by assumption))))⟩
set_option maxHeartbeats 1600000 in
theorem read_part (w : World) (b off c : Nat) (S : List UInt8) (hS : BytesAt w (some ⟨b, off, none⟩) S) (x0 x1 x2 x3 : UInt8) (t : List UInt8) (hs : S = x0 :: x1 :: x2 :: x3 :: t) (hn : un32 [x0, x1, x2, x3] ≤ 32768) (hl : S.length < un32 [x0, x1, x2, x3] + 8) :
    Calls Tryd.prog 51 #[.slice (some ⟨b, off, none⟩) S.length c] w fun e w' => e = .returned (.tuple #[.slice none 0 0, .int .i64 0, .nilIface]) ∧ Gr w w' := by
  have h4 : 4 ≤ S.length := by rw [hs]; simp
  have hg : Calls Tryd.prog 66 #[.slice (some ⟨b, off, none⟩) S.length c] w fun e w' => e = .returned (.int .u32 (un32 [x0, x1, x2, x3])) ∧ Gr w w' := get_at (i := 0) hS hs h4
  generalize un32 [x0, x1, x2, x3] = n at *
  have hl2 : decide ((S.length : Int) < 4) = false := decide_eq_false (by omega)
  have hn2 : decide ((32768 : Int) < n) = false := decide_eq_false (by omega)
  have hn4 : (S.length : Int) - (4 + n) < 4 := by omega
  replace hs := Lib.hid hs
  replace hg := Lib.hid hg
  go_enter Tryd.func51, Tryd.ntmps51
  go_wp2_with fail
  refine (hg.out).mono ?_
  rintro e wa ⟨rfl, ga⟩
  obtain ⟨ca, fa, sa⟩ := ga.cells
  try simp only [size_drewN] at ca fa sa
  try simp only [World.size_alloc] at ca fa sa
  try simp only [World.size_drew] at ca fa sa
  try simp only [World.size_setCell] at ca fa sa
  go_wp2_with fail
  go_ret3
  exact ⟨rfl, ga⟩
set_option maxRecDepth 100000 in
set_option maxHeartbeats 1600000 in
/-- The sum is reckoned and held against the frame's. -/
theorem read_sum {G : List Nat} {E : Nat → Addr} (w : World) (b off c : Nat) (S : List UInt8) (hS : BytesAt w (some ⟨b, off, none⟩) S) (hE : EAt G E w) (i1 : 4 ∈ G) (x0 x1 x2 x3 y0 y1 y2 y3 : UInt8) (t r : List UInt8) (hs : S = x0 :: x1 :: x2 :: x3 :: t) (n : Nat) (hx : un32 [x0, x1, x2, x3] = n) (hn : n ≤ 32768) (hl : n + 8 ≤ S.length) (hc : S.length ≤ c) (hm : S.length ≤ maxLen) (hy : S.drop (4 + n) = y0 :: y1 :: y2 :: y3 :: r) (hq : crc (S.take (4 + n)) ≠ un32 [y0, y1, y2, y3]) :
    Calls Tryd.prog 51 #[.slice (some ⟨b, off, none⟩) S.length c] w fun e w' => e = .returned (.tuple #[.slice none 0 0, .int .i64 0, (Value.iface 137 (.pointer (some (E 4))))]) ∧ Gr w w' := by
  have h4 : 4 ≤ S.length := by omega
  have hg : Calls Tryd.prog 66 #[.slice (some ⟨b, off, none⟩) S.length c] w fun e w' => e = .returned (.int .u32 n) ∧ Gr w w' := by rw [← hx]; exact get_at (i := 0) hS hs h4
  have hlt : (S.take (4 + n)).length = 4 + n := by rw [List.length_take]; omega
  have hsu := fun w1 (g : Gr w w1) => csum_any (some ⟨b, off, none⟩) c (S.take (4 + n)) w1 ((hS.take _).gr g) (by omega)
  rw [hlt] at hsu
  have hg2 := fun w1 (g : Gr w w1) => get_at (c := c - (4 + n)) (n := S.length - (4 + n)) (hS.gr g) hy (by omega)
  generalize un32 [y0, y1, y2, y3] = u at *
  generalize crc (S.take (4 + n)) = m at *
  have hl2 : decide ((S.length : Int) < 4) = false := decide_eq_false (by omega)
  have hn2 : decide ((32768 : Int) < n) = false := decide_eq_false (by omega)
  have hn4 : decide ((S.length : Int) - (4 + n) < 4) = false := decide_eq_false (by omega)
  have hmm := hm
  unfold maxLen at hmm
  have hs0 : (0 : Int) ≤ 4 + (n : Int) := by omega
  have hs1 : (4 : Int) + (n : Int) ≤ (c : Int) := by omega
  have hs2 : (4 : Int) + (n : Int) ≤ (S.length : Int) := by omega
  have hst : ((4 : Int) + (n : Int)).toNat = 4 + n := by omega
  have hmu : ((m : Int) == u) = false := beq_eq_false_iff_ne.2 (by omega)
  have hmv : ((m : Int) != u) = true := by rw [bne, hmu]; rfl
  replace hs := Lib.hid hs
  replace hy := Lib.hid hy
  replace hg := Lib.hid hg
  replace hlt := Lib.hid hlt
  replace hsu := Lib.hid hsu
  replace hg2 := Lib.hid hg2
  replace hx := Lib.hid hx
  go_enter Tryd.func51, Tryd.ntmps51
  go_wp2_with fail
  refine (hg.out).mono ?_
  rintro e wa ⟨rfl, ga⟩
  obtain ⟨ca, fa, sa⟩ := ga.cells
  try simp only [size_drewN] at ca fa sa
  try simp only [World.size_alloc] at ca fa sa
  try simp only [World.size_drew] at ca fa sa
  try simp only [World.size_setCell] at ca fa sa
  clear ca fa
  go_wp2_with fail
  go_upto_region 9 with fail
  refine wp_region_grows (by kernel_rfl) (by kernel_rfl) ?_
  repeat (any_goals (first | go_big_quiet_step (first | (exact Calls.grows_same (hsu.out _ (ga.trans (by exact GrW.gr _)))) | (exact Calls.grows (hg2.out _ (ga.trans (by exact GrW.gr _)))) | fail) | quiet_step (first | (exact Calls.grows_same (hsu.out _ (ga.trans (by exact GrW.gr _)))) | (exact Calls.grows (hg2.out _ (ga.trans (by exact GrW.gr _)))) | fail)))
  refine wpQuiet_nil ?_
  intro wz hwq
  have gz := GrW.of hwq
  clear hwq
  obtain ⟨cz, fz, sz⟩ := gz.cells
  try simp only [size_drewN] at cz fz sz
  try simp only [World.size_alloc] at cz fz sz
  try simp only [World.size_drew] at cz fz sz
  try simp only [World.size_setCell] at cz fz sz
  have he := (hE.gr (ga.trans gz)).c0 i1
  clear cz fz
  go_upto_region 10 with fail
  go_region
  go_wp2_with fail
  go_ret3
  exact ⟨rfl, (by repeat (first | exact Gr.refl _ | apply Gr.alloc | apply Gr.drew | apply Gr.drewN | (refine Gr.setCell ?_ (by first | (simp; done) | (simp; omega)) _) | (refine Gr.trans ?_ (by assumption))))⟩


set_option maxRecDepth 100000 in
set_option maxHeartbeats 1600000 in
/-- The sum is the frame's: the payload as new memory. -/
theorem read_good (w : World) (b off c : Nat) (S : List UInt8) (hS : BytesAt w (some ⟨b, off, none⟩) S) (x0 x1 x2 x3 y0 y1 y2 y3 : UInt8) (t r : List UInt8) (hs : S = x0 :: x1 :: x2 :: x3 :: t) (n : Nat) (hx : un32 [x0, x1, x2, x3] = n) (hn : n ≤ 32768) (hl : n + 8 ≤ S.length) (hc : S.length ≤ c) (hm : S.length ≤ maxLen) (hy : S.drop (4 + n) = y0 :: y1 :: y2 :: y3 :: r) (hq : crc (S.take (4 + n)) = un32 [y0, y1, y2, y3]) :
    Calls Tryd.prog 51 #[.slice (some ⟨b, off, none⟩) S.length c] w fun e w' => ∃ a' c', e = .returned (.tuple #[.slice a' n c', .int .i64 ((n : Int) + 8), .nilIface]) ∧ Own w w' a' c' ((S.drop 4).take n) := by
  have h4 : 4 ≤ S.length := by omega
  have hg : Calls Tryd.prog 66 #[.slice (some ⟨b, off, none⟩) S.length c] w fun e w' => e = .returned (.int .u32 n) ∧ Gr w w' := by rw [← hx]; exact get_at (i := 0) hS hs h4
  have hlt : (S.take (4 + n)).length = 4 + n := by rw [List.length_take]; omega
  have hsu := fun w1 (g : Gr w w1) => csum_any (some ⟨b, off, none⟩) c (S.take (4 + n)) w1 ((hS.take _).gr g) (by omega)
  rw [hlt] at hsu
  have hg2 := fun w1 (g : Gr w w1) => get_at (c := c - (4 + n)) (n := S.length - (4 + n)) (hS.gr g) hy (by omega)
  have hpl : ((S.drop 4).take n).length = n := by rw [List.length_take, List.length_drop]; omega
  have hcl := fun w1 (g : Gr w w1) => cloneB_any w1 (some ⟨b, off + 4, none⟩) (c - 4) ((S.drop 4).take n) (((hS.drop 4).take n).gr g) (fun h => by cases h) (by omega)
  rw [hpl] at hcl
  rw [← hq] at hg2
  generalize crc (S.take (4 + n)) = m at *
  have hl2 : decide ((S.length : Int) < 4) = false := decide_eq_false (by omega)
  have hn2 : decide ((32768 : Int) < n) = false := decide_eq_false (by omega)
  have hn4 : decide ((S.length : Int) - (4 + n) < 4) = false := decide_eq_false (by omega)
  have hmm := hm
  unfold maxLen at hmm
  have hs0 : (0 : Int) ≤ 4 + (n : Int) := by omega
  have hs1 : (4 : Int) + (n : Int) ≤ (c : Int) := by omega
  have hs2 : (4 : Int) + (n : Int) ≤ (S.length : Int) := by omega
  have hst : ((4 : Int) + (n : Int)).toNat = 4 + n := by omega
  replace hs := Lib.hid hs
  replace hy := Lib.hid hy
  replace hg := Lib.hid hg
  replace hlt := Lib.hid hlt
  replace hpl := Lib.hid hpl
  replace hsu := Lib.hid hsu
  replace hg2 := Lib.hid hg2
  replace hcl := Lib.hid hcl
  replace hx := Lib.hid hx
  clear hq
  go_enter Tryd.func51, Tryd.ntmps51
  go_wp2_with fail
  refine (hg.out).mono ?_
  rintro e wa ⟨rfl, ga⟩
  obtain ⟨ca, fa, sa⟩ := ga.cells
  try simp only [size_drewN] at ca fa sa
  try simp only [World.size_alloc] at ca fa sa
  try simp only [World.size_drew] at ca fa sa
  try simp only [World.size_setCell] at ca fa sa
  clear ca fa
  go_wp2_with fail
  go_upto_region 9 with fail
  refine wp_region_grows (by kernel_rfl) (by kernel_rfl) ?_
  repeat (any_goals (first | go_big_quiet_step (first | (exact Calls.grows_same (hsu.out _ (ga.trans (by exact GrW.gr _)))) | (exact Calls.grows (hg2.out _ (ga.trans (by exact GrW.gr _)))) | fail) | quiet_step (first | (exact Calls.grows_same (hsu.out _ (ga.trans (by exact GrW.gr _)))) | (exact Calls.grows (hg2.out _ (ga.trans (by exact GrW.gr _)))) | fail)))
  refine wpQuiet_nil ?_
  intro wz hwq
  have gz := GrW.of hwq
  clear hwq
  obtain ⟨cz, fz, sz⟩ := gz.cells
  try simp only [size_drewN] at cz fz sz
  try simp only [World.size_alloc] at cz fz sz
  try simp only [World.size_drew] at cz fz sz
  try simp only [World.size_setCell] at cz fz sz
  clear cz fz
  go_wp2_with fail
  have gz2 := ga.trans gz
  refine (hcl.out _ gz2).mono ?_
  rintro e w1 ⟨a1, c1, rfl, h1⟩
  replace h1 := Lib.hid h1
  go_wp2_with fail
  go_ret3
  exact ⟨a1, c1, by congr 3; simp; omega, h1.out.older gz2⟩

theorem slip_sum {A : List UInt8} {i : Nat} (h : i < A.length) {d : UInt8} (hd : A[i]? ≠ some d) : crc (A.set i d) ≠ crc A := by
  intro he
  rw [List.set_eq_take_append_cons_drop, if_pos h] at he
  have hA : A = A.take i ++ A[i] :: A.drop (i + 1) := by rw [← List.drop_eq_getElem_cons h, List.take_append_drop]
  rw [show crc A = crc (A.take i ++ A[i] :: A.drop (i + 1)) from congrArg crc hA] at he
  have := crc_slip _ _ he
  exact hd (by rw [this]; exact List.getElem?_eq_getElem h)
theorem four_of {l : List UInt8} (h : l.length = 4) : ∃ a b c d, l = [a, b, c, d] := by
  match l, h with
  | [a, b, c, d], _ => exact ⟨a, b, c, d, rfl⟩
/-- One byte behind the first four that turned: the sum tells. -/
theorem slip_frame {L : List UInt8} (hL : L.length ≤ 32768) {i : Nat} (h4 : 4 ≤ i) (hi : i < L.length + 8) {d : UInt8} (hd : (frameB L)[i]? ≠ some d) :
    ∃ x0 x1 x2 x3 y0 y1 y2 y3 t, (frameB L).set i d = x0 :: x1 :: x2 :: x3 :: t ∧ un32 [x0, x1, x2, x3] = L.length ∧ ((frameB L).set i d).drop (4 + L.length) = [y0, y1, y2, y3] ∧ crc (((frameB L).set i d).take (4 + L.length)) ≠ un32 [y0, y1, y2, y3] := by
  obtain ⟨x0, x1, x2, x3, hx⟩ := four_of (le32_len L.length)
  have hxn : un32 [x0, x1, x2, x3] = L.length := by
    have := un32_le32 (n := L.length) (by omega) []
    rwa [hx, List.append_nil] at this
  unfold frameB at hd ⊢
  obtain ⟨A, hA⟩ : ∃ A, A = le32 L.length ++ L := ⟨_, rfl⟩
  have hAl : A.length = 4 + L.length := by rw [hA, List.length_append, le32_len]
  rw [← hA] at hd ⊢
  by_cases hlt : i < A.length
  · obtain ⟨y0, y1, y2, y3, hy⟩ := four_of (le32_len (crc A))
    rw [List.getElem?_append_left hlt] at hd
    have h1 : (A ++ le32 (crc A)).set i d = A.set i d ++ le32 (crc A) := List.set_append_left _ _ hlt
    have h2 : A.set i d = le32 L.length ++ L.set (i - 4) d := by
      rw [hA, List.set_append_right _ _ (by rw [le32_len]; omega), le32_len]
    refine ⟨x0, x1, x2, x3, y0, y1, y2, y3, L.set (i - 4) d ++ le32 (crc A), ?_, hxn, ?_, ?_⟩
    · rw [h1, h2, hx]; rfl
    · rw [h1, ← hy]; exact List.drop_left' (by rw [List.length_set, hAl])
    · rw [h1, List.take_left' (by rw [List.length_set, hAl])]
      intro he
      have := un32_le32 (n := crc A) (crc_lt A) []
      rw [List.append_nil, hy] at this
      exact slip_sum hlt hd (he.trans this)
  · have hge : A.length ≤ i := by omega
    rw [List.getElem?_append_right hge] at hd
    have h1 : (A ++ le32 (crc A)).set i d = A ++ (le32 (crc A)).set (i - A.length) d := List.set_append_right _ _ hge
    obtain ⟨y0, y1, y2, y3, hy⟩ := four_of (l := (le32 (crc A)).set (i - A.length) d) (by rw [List.length_set, le32_len])
    refine ⟨x0, x1, x2, x3, y0, y1, y2, y3, L ++ (le32 (crc A)).set (i - A.length) d, ?_, hxn, ?_, ?_⟩
    · rw [h1, hA, hx]; rfl
    · rw [h1, ← hy]; exact List.drop_left' hAl
    · rw [h1, List.take_left' hAl]
      intro he
      have h3 := le32_un32 y0 y1 y2 y3
      rw [← he, ← hy] at h3
      apply hd
      rw [h3, List.getElem?_set_self (by rw [le32_len]; omega)]


/-- A result that lies in a cell, and one beside it. -/
theorem res_cell {fn : Func} {p u : Tmp} {ty : TypeId} (h : fn.results = #[.cell p ty, .tmp u]) (tmps : Array Value) (w : World) {b : Nat} {cs : Array Value} {t : TypeId} {fs : Array Field} (hb : Blk w b cs t)
    (hp : tmps.getD p undef = .pointer (some ⟨b, 0, none⟩)) (hu : Tryd.prog.underlying ty = some (.struct fs)) (hi : (Tryd.prog.info? ty).map (·.size) = some cs.size) :
    (results fn tmps).run Tryd.prog w = .ok (.tuple #[.agg cs, tmps.getD u undef]) w := by
  have hl := run_loadVar_row (P := Tryd.prog) w b t ty cs (0, 0) _ hb hu rfl hi
  rw [results_cell_tmp h, hp]
  simp [asAddr, Result.andThen, hl]
theorem Blk.set5 {w : World} {b : Nat} {cs : Array Value} {t : TypeId} (h : Blk w b cs t) (hs : cs.size = 5) (v0 v1 v2 v3 v4 : Value) : Blk (((((w.setCell ⟨b, 0, none⟩ v0).setCell ⟨b, 1, none⟩ v1).setCell ⟨b, 2, none⟩ v2).setCell ⟨b, 3, none⟩ v3).setCell ⟨b, 4, none⟩ v4) b #[v0, v1, v2, v3, v4] t := by
  obtain ⟨l⟩ := cs
  match l, hs with
  | [c0, c1, c2, c3, c4], _ =>
    have h := (((((h.set 0 v0).set 1 v1).set 2 v2).set 3 v3).set 4 v4)
    simpa only [List.setIfInBounds_toArray, List.set_cons_zero, List.set_cons_succ] using h
theorem Blk.set11 {w : World} {b : Nat} {cs : Array Value} {t : TypeId} (h : Blk w b cs t) (hs : cs.size = 11) (v0 v1 v2 v3 v4 v5 v6 v7 v8 v9 v10 : Value) : Blk (((((((((((w.setCell ⟨b, 0, none⟩ v0).setCell ⟨b, 1, none⟩ v1).setCell ⟨b, 2, none⟩ v2).setCell ⟨b, 3, none⟩ v3).setCell ⟨b, 4, none⟩ v4).setCell ⟨b, 5, none⟩ v5).setCell ⟨b, 6, none⟩ v6).setCell ⟨b, 7, none⟩ v7).setCell ⟨b, 8, none⟩ v8).setCell ⟨b, 9, none⟩ v9).setCell ⟨b, 10, none⟩ v10) b #[v0, v1, v2, v3, v4, v5, v6, v7, v8, v9, v10] t := by
  obtain ⟨l⟩ := cs
  match l, hs with
  | [c0, c1, c2, c3, c4, c5, c6, c7, c8, c9, c10], _ =>
    have h := (((((((((((h.set 0 v0).set 1 v1).set 2 v2).set 3 v3).set 4 v4).set 5 v5).set 6 v6).set 7 v7).set 8 v8).set 9 v9).set 10 v10)
    simpa only [List.setIfInBounds_toArray, List.set_cons_zero, List.set_cons_succ] using h
theorem Gr.set5 {w a : World} {b : Nat} (h : Gr w a) (hb : w.heap.size ≤ b) (v0 v1 v2 v3 v4 : Value) : Gr w (((((a.setCell ⟨b, 0, none⟩ v0).setCell ⟨b, 1, none⟩ v1).setCell ⟨b, 2, none⟩ v2).setCell ⟨b, 3, none⟩ v3).setCell ⟨b, 4, none⟩ v4) := (Gr.setCell (Gr.setCell (Gr.setCell (Gr.setCell (Gr.setCell h (p := ⟨b, 0, none⟩) hb v0) (p := ⟨b, 1, none⟩) hb v1) (p := ⟨b, 2, none⟩) hb v2) (p := ⟨b, 3, none⟩) hb v3) (p := ⟨b, 4, none⟩) hb v4)
theorem Gr.set11 {w a : World} {b : Nat} (h : Gr w a) (hb : w.heap.size ≤ b) (v0 v1 v2 v3 v4 v5 v6 v7 v8 v9 v10 : Value) : Gr w (((((((((((a.setCell ⟨b, 0, none⟩ v0).setCell ⟨b, 1, none⟩ v1).setCell ⟨b, 2, none⟩ v2).setCell ⟨b, 3, none⟩ v3).setCell ⟨b, 4, none⟩ v4).setCell ⟨b, 5, none⟩ v5).setCell ⟨b, 6, none⟩ v6).setCell ⟨b, 7, none⟩ v7).setCell ⟨b, 8, none⟩ v8).setCell ⟨b, 9, none⟩ v9).setCell ⟨b, 10, none⟩ v10) := (Gr.setCell (Gr.setCell (Gr.setCell (Gr.setCell (Gr.setCell (Gr.setCell (Gr.setCell (Gr.setCell (Gr.setCell (Gr.setCell (Gr.setCell h (p := ⟨b, 0, none⟩) hb v0) (p := ⟨b, 1, none⟩) hb v1) (p := ⟨b, 2, none⟩) hb v2) (p := ⟨b, 3, none⟩) hb v3) (p := ⟨b, 4, none⟩) hb v4) (p := ⟨b, 5, none⟩) hb v5) (p := ⟨b, 6, none⟩) hb v6) (p := ⟨b, 7, none⟩) hb v7) (p := ⟨b, 8, none⟩) hb v8) (p := ⟨b, 9, none⟩) hb v9) (p := ⟨b, 10, none⟩) hb v10)
set_option maxHeartbeats 1600000 in
theorem opened_err {G : List Nat} {E : Nat → Addr} (w : World) (s : Value) (g : Nat) (hE : EAt G E w) (i1 : 1 ∈ G)
    (hR : Calls Tryd.prog 51 #[s] w fun e w' => e = .returned (.tuple #[.slice none 0 0, .int .i64 0, .iface 137 (.pointer (some (E g)))]) ∧ Gr w w') :
    Calls Tryd.prog 30 #[s] w fun e w' => e = .returned (.tuple #[.pointer none, (Value.iface 137 (.pointer (some (E 1))))]) ∧ Gr w w' := by
  replace hR := Lib.hid hR
  go_enter Tryd.func30, Tryd.ntmps30
  go_wp2_with fail
  refine (hR.out).mono ?_
  rintro e wa ⟨rfl, ga⟩
  obtain ⟨ca, fa, sa⟩ := ga.cells
  try simp only [size_drewN] at ca fa sa
  try simp only [World.size_alloc] at ca fa sa
  try simp only [World.size_drew] at ca fa sa
  try simp only [World.size_setCell] at ca fa sa
  have he := (hE.gr ga).c0 i1
  clear ca fa
  go_upto_region 3 with fail
  go_region
  go_wp2_with fail
  go_ret2
  exact ⟨rfl, (by repeat (first | exact Gr.refl _ | apply Gr.alloc | apply Gr.drew | apply Gr.drewN | (refine Gr.setCell ?_ (by first | (simp; done) | (simp; omega)) _) | (refine Gr.trans ?_ (by assumption))))⟩
set_option maxHeartbeats 1600000 in
theorem opened_none {G : List Nat} {E : Nat → Addr} (w : World) (s : Value) (hE : EAt G E w) (i1 : 1 ∈ G)
    (hR : Calls Tryd.prog 51 #[s] w fun e w' => e = .returned (.tuple #[.slice none 0 0, .int .i64 0, .nilIface]) ∧ Gr w w') :
    Calls Tryd.prog 30 #[s] w fun e w' => e = .returned (.tuple #[.pointer none, (Value.iface 137 (.pointer (some (E 1))))]) ∧ Gr w w' := by
  replace hR := Lib.hid hR
  go_enter Tryd.func30, Tryd.ntmps30
  go_wp2_with fail
  refine (hR.out).mono ?_
  rintro e wa ⟨rfl, ga⟩
  obtain ⟨ca, fa, sa⟩ := ga.cells
  try simp only [size_drewN] at ca fa sa
  try simp only [World.size_alloc] at ca fa sa
  try simp only [World.size_drew] at ca fa sa
  try simp only [World.size_setCell] at ca fa sa
  have he := (hE.gr ga).c0 i1
  clear ca fa
  go_upto_region 3 with fail
  go_region
  go_wp2_with fail
  go_ret2
  exact ⟨rfl, (by repeat (first | exact Gr.refl _ | apply Gr.alloc | apply Gr.drew | apply Gr.drewN | (refine Gr.setCell ?_ (by first | (simp; done) | (simp; omega)) _) | (refine Gr.trans ?_ (by assumption))))⟩
/-- The question of nothing. -/
abbrev askZ : Value := .agg #[.int .i64 0, .int .i64 0, .int .i64 0, .int .i64 0, .int .i64 0, .int .i64 0, .int .i64 0, .int .i64 0, .int .i64 0, .slice none 0 0, .int .i64 0]
set_option maxRecDepth 100000 in
set_option maxHeartbeats 1600000 in
theorem getAsk_shut {E : Nat → Addr} (w : World) (s : Value)
    (hO : ∀ w1, Gr w w1 → Calls Tryd.prog 30 #[s] w1 fun e w' => e = .returned (.tuple #[.pointer none, (Value.iface 137 (.pointer (some (E 1))))]) ∧ Gr w1 w') :
    Calls Tryd.prog 20 #[s] w fun e w' => e = .returned (.tuple #[askZ, (Value.iface 137 (.pointer (some (E 1))))]) ∧ Gr w w' := by
  replace hO := Lib.hid hO
  go_enter Tryd.func20, Tryd.ntmps20
  go_wp2_with fail
  refine (hO.out _ ((Gr.refl w).alloc _)).mono ?_
  rintro e wa ⟨rfl, ga⟩
  obtain ⟨ca, fa, sa⟩ := ga.cells
  try simp only [size_drewN] at ca fa sa
  try simp only [World.size_alloc] at ca fa sa
  try simp only [World.size_drew] at ca fa sa
  try simp only [World.size_setCell] at ca fa sa
  have za0 : w.heap.size < wa.heap.size := by omega
  have ya0 : w.heap.size ≤ wa.heap.size := by omega
  have ka0 := fun o => ca (w.heap.size) o (by omega)
  have ja0 := fun o => fa (w.heap.size) o (by omega)
  go_wp2_with fail
  refine bodyPost_ret (v := .tuple #[askZ, (Value.iface 137 (.pointer (some (E 1))))]) ?_ rfl ⟨rfl, ?_⟩
  · refine (res_cell (b := w.heap.size) (t := 31) Tryd.results20 _ _ (((Blk.new w _ _).gr ga).set11 ?_ _ _ _ _ _ _ _ _ _ _ _) ?_ Tryd.underlying31 (by kernel_rfl)).trans ?_
    · rfl
    · simp
    · simp
  · exact (((Gr.refl w).alloc _).trans ga).set11 (Nat.le_refl _) _ _ _ _ _ _ _ _ _ _ _
end Go.Proofs.YtlgbnjaoadlolaaDoor
