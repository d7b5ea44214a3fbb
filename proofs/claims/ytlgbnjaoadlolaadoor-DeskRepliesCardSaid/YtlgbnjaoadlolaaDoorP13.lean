/- crc.Read of a frame; a byte that turned; desk.opened. -/
import Derived.Test.YtlgbnjaoadlolaaDoorP12
namespace Go.Proofs.YtlgbnjaoadlolaaDoor
open Go.RowKit

set_option maxRecDepth 100000 in
set_option maxHeartbeats 1600000 in
/-- The sum is the frame's: the payload as new memory. -/
theorem read_good (w : World) (b off c : Nat) (S : List UInt8) (hS : BytesAt w (some ⟨b, off, none⟩) S) (x0 x1 x2 x3 y0 y1 y2 y3 : UInt8) (t r : List UInt8) (hs : S = x0 :: x1 :: x2 :: x3 :: t) (n : Nat) (hx : un32 [x0, x1, x2, x3] = n) (hn : n ≤ 32768) (hl : n + 8 ≤ S.length) (hc : S.length ≤ c) (hm : S.length ≤ maxLen) (hy : S.drop (4 + n) = y0 :: y1 :: y2 :: y3 :: r) (hq : crc (S.take (4 + n)) = un32 [y0, y1, y2, y3]) :
    Calls Tryd.prog 51 #[.slice (some ⟨b, off, none⟩) S.length c] w fun e w' => ∃ a' c', e = .returned (.tuple #[.slice a' n c', .int .i64 ((n : Int) + 8), .nilIface]) ∧ Own w w' a' c' ((S.drop 4).take n) := by
  have h4 : 4 ≤ S.length := by omega
  have hg : Calls Tryd.prog 66 #[.slice (some ⟨b, off, none⟩) S.length c] w fun e w' => e = .returned (.int .u32 n) ∧ Gr w w' := by rw [← hx]; exact get_at (i := 0) hS hs h4
  have hlt : (S.take (4 + n)).length = 4 + n := by rw [List.length_take]; omega
  have hsu := fun w1 (g : Gr w w1) => csum_any (some ⟨b, off, none⟩) c (S.take (4 + n)) w1 ((hS.take _).gr g) (by omega)
  rw [hlt] at hsu
  have hg2 := fun w1 (g : Gr w w1) => get_at (c := c - (4 + n)) (n := S.length - (4 + n)) (hS.gr g) hy (by omega)
  have hpl : ((S.drop 4).take n).length = n := by rw [List.length_take, List.length_drop]; omega
  have hcl := fun w1 (g : Gr w w1) => cloneB_any w1 (some ⟨b, off + 4, none⟩) (c - 4) ((S.drop 4).take n) (((hS.drop 4).take n).gr g) (fun h => by cases h) (by omega)
  rw [hpl] at hcl
  rw [← hq] at hg2
  generalize crc (S.take (4 + n)) = m at *
  have hl2 : decide ((S.length : Int) < 4) = false := decide_eq_false (by omega)
  have hn2 : decide ((32768 : Int) < n) = false := decide_eq_false (by omega)
  have hn4 : decide ((S.length : Int) - (4 + n) < 4) = false := decide_eq_false (by omega)
  have hmm := hm
  unfold maxLen at hmm
  have hs0 : (0 : Int) ≤ 4 + (n : Int) := by omega
  have hs1 : (4 : Int) + (n : Int) ≤ (c : Int) := by omega
  have hs2 : (4 : Int) + (n : Int) ≤ (S.length : Int) := by omega
  have hst : ((4 : Int) + (n : Int)).toNat = 4 + n := by omega
  replace hs := Lib.hid hs
  replace hy := Lib.hid hy
  replace hg := Lib.hid hg
  replace hlt := Lib.hid hlt
  replace hpl := Lib.hid hpl
  replace hsu := Lib.hid hsu
  replace hg2 := Lib.hid hg2
  replace hcl := Lib.hid hcl
  replace hx := Lib.hid hx
  clear hq
  go_enter Tryd.func51, Tryd.ntmps51
  go_wp2_with fail
  refine (hg.out).mono ?_
  rintro e wa ⟨rfl, ga⟩
  obtain ⟨ca, fa, sa⟩ := ga.cells
  try simp only [size_drewN] at ca fa sa
  try simp only [World.size_alloc] at ca fa sa
  try simp only [World.size_drew] at ca fa sa
  try simp only [World.size_setCell] at ca fa sa
  clear ca fa
  go_wp2_with fail
  go_upto_region 9 with fail
  refine wp_region_grows (by kernel_rfl) (by kernel_rfl) ?_
  repeat (any_goals (first | go_big_quiet_step (first | (exact Calls.grows_same (hsu.out _ (ga.trans (by exact GrW.gr _)))) | (exact Calls.grows (hg2.out _ (ga.trans (by exact GrW.gr _)))) | fail) | quiet_step (first | (exact Calls.grows_same (hsu.out _ (ga.trans (by exact GrW.gr _)))) | (exact Calls.grows (hg2.out _ (ga.trans (by exact GrW.gr _)))) | fail)))
  refine wpQuiet_nil ?_
  intro wz hwq
  have gz := GrW.of hwq
  clear hwq
  obtain ⟨cz, fz, sz⟩ := gz.cells
  try simp only [size_drewN] at cz fz sz
  try simp only [World.size_alloc] at cz fz sz
  try simp only [World.size_drew] at cz fz sz
  try simp only [World.size_setCell] at cz fz sz
  clear cz fz
  go_wp2_with fail
  have gz2 := ga.trans gz
  refine (hcl.out _ gz2).mono ?_
  rintro e w1 ⟨a1, c1, rfl, h1⟩
  replace h1 := Lib.hid h1
  go_wp2_with fail
  go_ret3
  exact ⟨a1, c1, by congr 3; simp; omega, h1.out.older gz2⟩

theorem slip_sum {A : List UInt8} {i : Nat} (h : i < A.length) {d : UInt8} (hd : A[i]? ≠ some d) : crc (A.set i d) ≠ crc A := by
  intro he
  rw [List.set_eq_take_append_cons_drop, if_pos h] at he
  have hA : A = A.take i ++ A[i] :: A.drop (i + 1) := by rw [← List.drop_eq_getElem_cons h, List.take_append_drop]
  rw [show crc A = crc (A.take i ++ A[i] :: A.drop (i + 1)) from congrArg crc hA] at he
  have := crc_slip _ _ he
  exact hd (by rw [this]; exact List.getElem?_eq_getElem h)
theorem four_of {l : List UInt8} (h : l.length = 4) : ∃ a b c d, l = [a, b, c, d] := by
  match l, h with
  | [a, b, c, d], _ => exact ⟨a, b, c, d, rfl⟩
/-- One byte behind the first four that turned: the sum tells. -/
theorem slip_frame {L : List UInt8} (hL : L.length ≤ 32768) {i : Nat} (h4 : 4 ≤ i) (hi : i < L.length + 8) {d : UInt8} (hd : (frameB L)[i]? ≠ some d) :
    ∃ x0 x1 x2 x3 y0 y1 y2 y3 t, (frameB L).set i d = x0 :: x1 :: x2 :: x3 :: t ∧ un32 [x0, x1, x2, x3] = L.length ∧ ((frameB L).set i d).drop (4 + L.length) = [y0, y1, y2, y3] ∧ crc (((frameB L).set i d).take (4 + L.length)) ≠ un32 [y0, y1, y2, y3] := by
  obtain ⟨x0, x1, x2, x3, hx⟩ := four_of (le32_len L.length)
  have hxn : un32 [x0, x1, x2, x3] = L.length := by
    have := un32_le32 (n := L.length) (by omega) []
    rwa [hx, List.append_nil] at this
  unfold frameB at hd ⊢
  obtain ⟨A, hA⟩ : ∃ A, A = le32 L.length ++ L := ⟨_, rfl⟩
  have hAl : A.length = 4 + L.length := by rw [hA, List.length_append, le32_len]
  rw [← hA] at hd ⊢
  by_cases hlt : i < A.length
  · obtain ⟨y0, y1, y2, y3, hy⟩ := four_of (le32_len (crc A))
    rw [List.getElem?_append_left hlt] at hd
    have h1 : (A ++ le32 (crc A)).set i d = A.set i d ++ le32 (crc A) := List.set_append_left _ _ hlt
    have h2 : A.set i d = le32 L.length ++ L.set (i - 4) d := by
      rw [hA, List.set_append_right _ _ (by rw [le32_len]; omega), le32_len]
    refine ⟨x0, x1, x2, x3, y0, y1, y2, y3, L.set (i - 4) d ++ le32 (crc A), ?_, hxn, ?_, ?_⟩
    · rw [h1, h2, hx]; rfl
    · rw [h1, ← hy]; exact List.drop_left' (by rw [List.length_set, hAl])
    · rw [h1, List.take_left' (by rw [List.length_set, hAl])]
      intro he
      have := un32_le32 (n := crc A) (crc_lt A) []
      rw [List.append_nil, hy] at this
      exact slip_sum hlt hd (he.trans this)
  · have hge : A.length ≤ i := by omega
    rw [List.getElem?_append_right hge] at hd
    have h1 : (A ++ le32 (crc A)).set i d = A ++ (le32 (crc A)).set (i - A.length) d := List.set_append_right _ _ hge
    obtain ⟨y0, y1, y2, y3, hy⟩ := four_of (l := (le32 (crc A)).set (i - A.length) d) (by rw [List.length_set, le32_len])
    refine ⟨x0, x1, x2, x3, y0, y1, y2, y3, L ++ (le32 (crc A)).set (i - A.length) d, ?_, hxn, ?_, ?_⟩
    · rw [h1, hA, hx]; rfl
    · rw [h1, ← hy]; exact List.drop_left' hAl
    · rw [h1, List.take_left' hAl]
      intro he
      have h3 := le32_un32 y0 y1 y2 y3
      rw [← he, ← hy] at h3
      apply hd
      rw [h3, List.getElem?_set_self (by rw [le32_len]; omega)]
end Go.Proofs.YtlgbnjaoadlolaaDoor
