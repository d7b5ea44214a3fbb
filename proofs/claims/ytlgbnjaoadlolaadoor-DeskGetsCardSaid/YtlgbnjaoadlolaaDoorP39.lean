/- What is a frame, and what is none: plain, and desk.opened. almonerref04.Read. -/
import Derived.Test.YtlgbnjaoadlolaaDoorP22
import Derived.Test.YtlgbnjaoadlolaaDoorP11
import Derived.Test.YtlgbnjaoadlolaaDoorP28
namespace Go.Proofs.YtlgbnjaoadlolaaDoor
open Go.RowKit

/-- A whole frame of at most 32768 bytes. -/
def isFr (S : List UInt8) : Prop := ∃ L, S = frameB L ∧ L.length ≤ 32768
theorem read_parts (S : List UInt8) (h : ¬ isFr S) : S.length < 4 ∨ ∃ x0 x1 x2 x3 t, S = x0 :: x1 :: x2 :: x3 :: t ∧ (32768 < un32 [x0, x1, x2, x3] ∨ un32 [x0, x1, x2, x3] ≤ 32768 ∧ (S.length < un32 [x0, x1, x2, x3] + 8 ∨ un32 [x0, x1, x2, x3] + 8 ≤ S.length ∧ ∃ y0 y1 y2 y3 r, S.drop (4 + un32 [x0, x1, x2, x3]) = y0 :: y1 :: y2 :: y3 :: r ∧ (crc (S.take (4 + un32 [x0, x1, x2, x3])) ≠ un32 [y0, y1, y2, y3] ∨ crc (S.take (4 + un32 [x0, x1, x2, x3])) = un32 [y0, y1, y2, y3] ∧ un32 [x0, x1, x2, x3] + 8 ≠ S.length))) := by
  by_cases h4 : S.length < 4
  · exact .inl h4
  · obtain ⟨x0, x1, x2, x3, t, hs⟩ := read_head S (by omega)
    refine .inr ⟨x0, x1, x2, x3, t, hs, ?_⟩
    by_cases hn : 32768 < un32 [x0, x1, x2, x3]
    · exact .inl hn
    · refine .inr ⟨by omega, ?_⟩
      by_cases hl : S.length < un32 [x0, x1, x2, x3] + 8
      · exact .inl hl
      · refine .inr ⟨by omega, ?_⟩
        obtain ⟨y0, y1, y2, y3, r, hy⟩ := read_head (S.drop (4 + un32 [x0, x1, x2, x3])) (by rw [List.length_drop]; omega)
        refine ⟨y0, y1, y2, y3, r, hy, ?_⟩
        by_cases hc : crc (S.take (4 + un32 [x0, x1, x2, x3])) = un32 [y0, y1, y2, y3]
        · refine .inr ⟨hc, fun he => h ⟨(S.drop 4).take (un32 [x0, x1, x2, x3]), ?_, by rw [List.length_take]; omega⟩⟩
          have hr : r = [] := by
            have := congrArg List.length hy
            rw [List.length_drop] at this
            simp only [List.length_cons] at this
            exact List.length_eq_zero_iff.1 (by omega)
          have hpl : ((S.drop 4).take (un32 [x0, x1, x2, x3])).length = un32 [x0, x1, x2, x3] := by rw [List.length_take, List.length_drop]; omega
          have hd4 : S.drop 4 = t := by rw [hs]; rfl
          have hle : le32 (un32 [x0, x1, x2, x3]) = [x0, x1, x2, x3] := le32_un32 x0 x1 x2 x3
          have hA : le32 (un32 [x0, x1, x2, x3]) ++ (S.drop 4).take (un32 [x0, x1, x2, x3]) = S.take (4 + un32 [x0, x1, x2, x3]) := by
            rw [hle, hd4, hs, Nat.add_comm 4]
            rfl
          unfold frameB
          rw [hpl, hA, hc, le32_un32]
          rw [hr] at hy
          rw [← hy, List.take_append_drop]
        · exact .inl hc
set_option maxRecDepth 100000 in
set_option maxHeartbeats 1600000 in
theorem opened_more {G : List Nat} {E : Nat → Addr} (w : World) (s : Value) (hE : EAt G E w) (i1 : 1 ∈ G) (a : Option Addr) (N c n : Nat) (hs : s = .slice a N c) (P : List UInt8) (hn : n ≤ 32768) (hne : n + 8 ≠ N)
    (hR : Calls Tryd.prog 51 #[s] w fun e w' => ∃ a' c', e = .returned (.tuple #[.slice a' n c', .int .i64 ((n : Int) + 8), .nilIface]) ∧ Own w w' a' c' P) :
    Calls Tryd.prog 30 #[s] w fun e w' => e = .returned (.tuple #[.pointer none, (Value.iface 137 (.pointer (some (E 1))))]) ∧ Gr w w' := by
  subst hs
  have e1 : ((n : Int) + 8 == 0) = false := beq_eq_false_iff_ne.2 (by omega)
  have e2 : ((n : Int) + 8 != (N : Int)) = true := bne_iff_ne.2 (by omega)
  replace hR := Lib.hid hR
  go_enter Tryd.func30, Tryd.ntmps30
  go_wp2_with fail
  refine hR.out.mono ?_
  rintro r w1 ⟨a1, c1, rfl, ho1⟩
  have g1 := ho1.2.2.2.2
  have he := (hE.gr g1).c0 i1
  replace ho1 := Lib.hid ho1
  go_upto_region 3 with fail
  go_region
  go_wp2_with fail
  go_ret2
  exact ⟨rfl, (by repeat (first | exact Gr.refl _ | apply Gr.alloc | apply Gr.drew | apply Gr.drewN | (refine Gr.setCell ?_ (by first | (simp; done) | (simp; omega)) _) | (refine Gr.trans ?_ (by assumption))))⟩
/-- What is no frame is not opened. -/
theorem opened_no {G : List Nat} {E : Nat → Addr} (w : World) (hE : EAt G E w) (i1 : 1 ∈ G) (i2 : 4 ∈ G) (i3 : 3 ∈ G) (b off c : Nat) (S : List UInt8) (hS : BytesAt w (some ⟨b, off, none⟩) S) (hc : S.length ≤ c) (hm : S.length ≤ maxLen) (hf : ¬ isFr S) :
    Calls Tryd.prog 30 #[.slice (some ⟨b, off, none⟩) S.length c] w fun e w' => e = .returned (.tuple #[.pointer none, (Value.iface 137 (.pointer (some (E 1))))]) ∧ Gr w w' := by
  rcases read_parts S hf with h4 | ⟨x0, x1, x2, x3, t, hs, hn | ⟨hn, hl | ⟨hl, y0, y1, y2, y3, r, hy, hq | ⟨hq, hne⟩⟩⟩⟩
  · exact opened_none w _ hE i1 (read_short w _ c S.length h4)
  · exact opened_err w _ 3 hE i1 (read_large w b off c S hS hE i3 x0 x1 x2 x3 t hs hn)
  · exact opened_none w _ hE i1 (read_part w b off c S hS x0 x1 x2 x3 t hs hn hl)
  · exact opened_err w _ 4 hE i1 (read_sum w b off c S hS hE i2 x0 x1 x2 x3 y0 y1 y2 y3 t r hs _ rfl hn hl hc hm hy hq)
  · exact opened_more w _ hE i1 _ S.length c _ rfl _ hn hne (read_good w b off c S hS x0 x1 x2 x3 y0 y1 y2 y3 t r hs _ rfl hn hl hc hm hy hq)


set_option maxHeartbeats 1600000 in
theorem rread_short (w : World) (a : Option Addr) (c n : Nat) (hl : n < 4) :
    Calls Tryd.prog 60 #[.slice a n c] w fun e w' => e = .returned (.tuple #[.slice none 0 0, .int .i64 0, .int .i64 0]) ∧ Gr w w' := by
  have hl2 : (n : Int) < 4 := by omega
  go_enter Tryd.func60, Tryd.ntmps60
  go_wp2_with fail
  go_ret3
  exact ⟨rfl, Gr.refl w⟩
set_option maxRecDepth 100000 in
set_option maxHeartbeats 3200000 in
theorem rread_large (w : World) (b off c : Nat) (S : List UInt8) (hS : BytesAt w (some ⟨b, off, none⟩) S) (x0 x1 x2 x3 : UInt8) (t : List UInt8) (hs : S = x0 :: x1 :: x2 :: x3 :: t) (hn : 32768 < un32 [x0, x1, x2, x3]) :
    Calls Tryd.prog 60 #[.slice (some ⟨b, off, none⟩) S.length c] w fun e w' => e = .returned (.tuple #[.slice none 0 0, .int .i64 0, .int .i64 8]) ∧ Gr w w' := by
  have h4 : 4 ≤ S.length := by rw [hs]; simp
  have c0 := GrW.cell (hS.at' (i := 0) (d := x0) (by rw [hs]; rfl)).2
  have c1 := GrW.cell (hS.at' (i := 1) (d := x1) (by rw [hs]; rfl)).2
  have c2 := GrW.cell (hS.at' (i := 2) (d := x2) (by rw [hs]; rfl)).2
  have c3 := GrW.cell (hS.at' (i := 3) (d := x3) (by rw [hs]; rfl)).2
  rw [Nat.add_zero] at c0
  have d0 := x0.toNat_lt
  have d1 := x1.toNat_lt
  have d2 := x2.toNat_lt
  have d3 := x3.toNat_lt
  have hv : un32 [x0, x1, x2, x3] = x0.toNat + 256 * x1.toNat + 65536 * x2.toNat + 16777216 * x3.toNat := rfl
  rw [hv] at hn
  generalize x0.toNat = n0 at *
  generalize x1.toNat = n1 at *
  generalize x2.toNat = n2 at *
  generalize x3.toNat = n3 at *
  have l0 : (0 : Int) < S.length := by omega
  have l1 : (1 : Int) < S.length := by omega
  have l2 : (2 : Int) < S.length := by omega
  have l3 : (3 : Int) < S.length := by omega
  have l0' : 0 < S.length := by omega
  have l1' : 1 < S.length := by omega
  have l2' : 2 < S.length := by omega
  have l3' : 3 < S.length := by omega
  have hl2 : decide ((S.length : Int) < 4) = false := decide_eq_false (by omega)
  have hn2 : (32768 : Int) < (n0 : Int) + 256 * n1 + 65536 * n2 + 16777216 * n3 := by omega
  have e1 : IntKind.i64.wrap (256 * (n1 : Int)) = 256 * (n1 : Int) := by rw [IntKind.wrap_i64]; omega
  have e2 : IntKind.i64.wrap ((n0 : Int) + 256 * (n1 : Int)) = (n0 : Int) + 256 * (n1 : Int) := by rw [IntKind.wrap_i64]; omega
  have e3 : IntKind.i64.wrap (65536 * (n2 : Int)) = 65536 * (n2 : Int) := by rw [IntKind.wrap_i64]; omega
  have e4 : IntKind.i64.wrap ((n0 : Int) + 256 * (n1 : Int) + 65536 * (n2 : Int)) = (n0 : Int) + 256 * (n1 : Int) + 65536 * (n2 : Int) := by rw [IntKind.wrap_i64]; omega
  have e5 : IntKind.i64.wrap (16777216 * (n3 : Int)) = 16777216 * (n3 : Int) := by rw [IntKind.wrap_i64]; omega
  have e6 : IntKind.i64.wrap ((n0 : Int) + 256 * (n1 : Int) + 65536 * (n2 : Int) + 16777216 * (n3 : Int)) = (n0 : Int) + 256 * (n1 : Int) + 65536 * (n2 : Int) + 16777216 * (n3 : Int) := by rw [IntKind.wrap_i64]; omega
  replace hS := Lib.hid hS
  replace hs := Lib.hid hs
  clear hv
  go_enter Tryd.func60, Tryd.ntmps60
  go_upto_region 3 with fail
  refine wp_region_grows (by kernel_rfl) (by kernel_rfl) ?_
  repeat (any_goals (first | go_big_quiet_step (first | fail) | quiet_step (first | fail)))
  refine wpQuiet_nil ?_
  intro wz hwq
  have gz := GrW.of hwq
  clear hwq
  obtain ⟨cz, fz, sz⟩ := gz.cells
  try simp only [size_drewN] at cz fz sz
  try simp only [World.size_alloc] at cz fz sz
  try simp only [World.size_drew] at cz fz sz
  try simp only [World.size_setCell] at cz fz sz
  clear cz fz e1 e2 e3 e4 e5 e6
  go_wp2_with fail
  go_ret3
  exact ⟨rfl, gz⟩
set_option maxRecDepth 100000 in
set_option maxHeartbeats 3200000 in
theorem rread_part (w : World) (b off c : Nat) (S : List UInt8) (hS : BytesAt w (some ⟨b, off, none⟩) S) (x0 x1 x2 x3 : UInt8) (t : List UInt8) (hs : S = x0 :: x1 :: x2 :: x3 :: t) (hn : un32 [x0, x1, x2, x3] ≤ 32768) (hl : S.length < un32 [x0, x1, x2, x3] + 8) :
    Calls Tryd.prog 60 #[.slice (some ⟨b, off, none⟩) S.length c] w fun e w' => e = .returned (.tuple #[.slice none 0 0, .int .i64 0, .int .i64 0]) ∧ Gr w w' := by
  have h4 : 4 ≤ S.length := by rw [hs]; simp
  have c0 := GrW.cell (hS.at' (i := 0) (d := x0) (by rw [hs]; rfl)).2
  have c1 := GrW.cell (hS.at' (i := 1) (d := x1) (by rw [hs]; rfl)).2
  have c2 := GrW.cell (hS.at' (i := 2) (d := x2) (by rw [hs]; rfl)).2
  have c3 := GrW.cell (hS.at' (i := 3) (d := x3) (by rw [hs]; rfl)).2
  rw [Nat.add_zero] at c0
  have d0 := x0.toNat_lt
  have d1 := x1.toNat_lt
  have d2 := x2.toNat_lt
  have d3 := x3.toNat_lt
  have hv : un32 [x0, x1, x2, x3] = x0.toNat + 256 * x1.toNat + 65536 * x2.toNat + 16777216 * x3.toNat := rfl
  obtain ⟨n, hnn⟩ : ∃ n, un32 [x0, x1, x2, x3] = n := ⟨_, rfl⟩
  rw [hnn] at hn hl
  rw [hv] at hnn
  generalize x0.toNat = n0 at *
  generalize x1.toNat = n1 at *
  generalize x2.toNat = n2 at *
  generalize x3.toNat = n3 at *
  have l0 : (0 : Int) < S.length := by omega
  have l1 : (1 : Int) < S.length := by omega
  have l2 : (2 : Int) < S.length := by omega
  have l3 : (3 : Int) < S.length := by omega
  have l0' : 0 < S.length := by omega
  have l1' : 1 < S.length := by omega
  have l2' : 2 < S.length := by omega
  have l3' : 3 < S.length := by omega
  have hl2 : decide ((S.length : Int) < 4) = false := decide_eq_false (by omega)
  have e1 : IntKind.i64.wrap (256 * (n1 : Int)) = 256 * (n1 : Int) := by rw [IntKind.wrap_i64]; omega
  have e2 : IntKind.i64.wrap ((n0 : Int) + 256 * (n1 : Int)) = (n0 : Int) + 256 * (n1 : Int) := by rw [IntKind.wrap_i64]; omega
  have e3 : IntKind.i64.wrap (65536 * (n2 : Int)) = 65536 * (n2 : Int) := by rw [IntKind.wrap_i64]; omega
  have e4 : IntKind.i64.wrap ((n0 : Int) + 256 * (n1 : Int) + 65536 * (n2 : Int)) = (n0 : Int) + 256 * (n1 : Int) + 65536 * (n2 : Int) := by rw [IntKind.wrap_i64]; omega
  have e5 : IntKind.i64.wrap (16777216 * (n3 : Int)) = 16777216 * (n3 : Int) := by rw [IntKind.wrap_i64]; omega
  have e6 : IntKind.i64.wrap ((n0 : Int) + 256 * (n1 : Int) + 65536 * (n2 : Int) + 16777216 * (n3 : Int)) = (n0 : Int) + 256 * (n1 : Int) + 65536 * (n2 : Int) + 16777216 * (n3 : Int) := by rw [IntKind.wrap_i64]; omega
  replace hS := Lib.hid hS
  replace hs := Lib.hid hs
  clear hv
  go_enter Tryd.func60, Tryd.ntmps60
  go_upto_region 3 with fail
  refine wp_region_grows (by kernel_rfl) (by kernel_rfl) ?_
  repeat (any_goals (first | go_big_quiet_step (first | fail) | quiet_step (first | fail)))
  refine wpQuiet_nil ?_
  intro wz hwq
  have gz := GrW.of hwq
  clear hwq
  obtain ⟨cz, fz, sz⟩ := gz.cells
  try simp only [size_drewN] at cz fz sz
  try simp only [World.size_alloc] at cz fz sz
  try simp only [World.size_drew] at cz fz sz
  try simp only [World.size_setCell] at cz fz sz
  clear cz fz e1 e2 e3 e4 e5 e6
  have en : (n0 : Int) + 256 * (n1 : Int) + 65536 * (n2 : Int) + 16777216 * (n3 : Int) = (n : Int) := by omega
  rw [en]
  clear en hnn
  have hl2 : (S.length : Int) < (n : Int) + 8 := by omega
  have hn2 : ¬ (32768 : Int) < (n : Int) := by omega
  go_wp2_with fail
  go_ret3
  exact ⟨rfl, gz⟩
set_option maxRecDepth 100000 in
set_option maxHeartbeats 6400000 in
theorem rread_sum (w : World) (b off c : Nat) (S : List UInt8) (hS : BytesAt w (some ⟨b, off, none⟩) S) (x0 x1 x2 x3 y0 y1 y2 y3 : UInt8) (t r : List UInt8) (hs : S = x0 :: x1 :: x2 :: x3 :: t) (hn : un32 [x0, x1, x2, x3] ≤ 32768) (hl : un32 [x0, x1, x2, x3] + 8 ≤ S.length) (hc : S.length ≤ c) (hm : S.length ≤ maxLen) (hy : S.drop (4 + un32 [x0, x1, x2, x3]) = y0 :: y1 :: y2 :: y3 :: r) (hq : crc (S.take (4 + un32 [x0, x1, x2, x3])) ≠ un32 [y0, y1, y2, y3]) :
    Calls Tryd.prog 60 #[.slice (some ⟨b, off, none⟩) S.length c] w fun e w' => e = .returned (.tuple #[.slice none 0 0, .int .i64 0, .int .i64 4]) ∧ Gr w w' := by
  have h4 : 4 ≤ S.length := by rw [hs]; simp
  have hlt : (S.take (4 + un32 [x0, x1, x2, x3])).length = 4 + un32 [x0, x1, x2, x3] := by rw [List.length_take]; omega
  have hsu := fun w1 (g : Gr w w1) => rsum_any (some ⟨b, off, none⟩) c (S.take (4 + un32 [x0, x1, x2, x3])) w1 ((hS.take _).gr g) (by omega)
  rw [hlt] at hsu
  have hfo := fun w1 => four_any (crc (S.take (4 + un32 [x0, x1, x2, x3]))) (crc_lt _) w1
  have hys : (S.drop (4 + un32 [x0, x1, x2, x3])).take 4 = [y0, y1, y2, y3] := by rw [hy]; rfl
  have hcv : ∀ w1, Gr w w1 → (convert 22 9 (.slice (some ⟨b, off + (4 + un32 [x0, x1, x2, x3]), none⟩) 4 (c - (4 + un32 [x0, x1, x2, x3])))).run Tryd.prog w1 = .ok (strB [y0, y1, y2, y3]) w1 := fun w1 g => by
    have h := conv_any (c - (4 + un32 [x0, x1, x2, x3])) (((hS.drop (4 + un32 [x0, x1, x2, x3])).take 4).gr g)
    rw [hys] at h
    exact h
  have hne : le32 (crc (S.take (4 + un32 [x0, x1, x2, x3]))) ≠ [y0, y1, y2, y3] := fun e => hq (by
    have h1 := un32_le32 (n := crc (S.take (4 + un32 [x0, x1, x2, x3]))) (crc_lt _) []
    rw [List.append_nil, e] at h1
    exact h1.symm)
  have c0 := GrW.cell (hS.at' (i := 0) (d := x0) (by rw [hs]; rfl)).2
  have c1 := GrW.cell (hS.at' (i := 1) (d := x1) (by rw [hs]; rfl)).2
  have c2 := GrW.cell (hS.at' (i := 2) (d := x2) (by rw [hs]; rfl)).2
  have c3 := GrW.cell (hS.at' (i := 3) (d := x3) (by rw [hs]; rfl)).2
  rw [Nat.add_zero] at c0
  have d0 := x0.toNat_lt
  have d1 := x1.toNat_lt
  have d2 := x2.toNat_lt
  have d3 := x3.toNat_lt
  have hv : un32 [x0, x1, x2, x3] = x0.toNat + 256 * x1.toNat + 65536 * x2.toNat + 16777216 * x3.toNat := rfl
  obtain ⟨n, hnn⟩ : ∃ n, un32 [x0, x1, x2, x3] = n := ⟨_, rfl⟩
  rw [hnn] at hn hl hlt hsu hfo hcv hne hys hq hy
  rw [hv] at hnn
  generalize x0.toNat = n0 at *
  generalize x1.toNat = n1 at *
  generalize x2.toNat = n2 at *
  generalize x3.toNat = n3 at *
  have l0 : (0 : Int) < S.length := by omega
  have l1 : (1 : Int) < S.length := by omega
  have l2 : (2 : Int) < S.length := by omega
  have l3 : (3 : Int) < S.length := by omega
  have l0' : 0 < S.length := by omega
  have l1' : 1 < S.length := by omega
  have l2' : 2 < S.length := by omega
  have l3' : 3 < S.length := by omega
  have hl2 : decide ((S.length : Int) < 4) = false := decide_eq_false (by omega)
  have e1 : IntKind.i64.wrap (256 * (n1 : Int)) = 256 * (n1 : Int) := by rw [IntKind.wrap_i64]; omega
  have e2 : IntKind.i64.wrap ((n0 : Int) + 256 * (n1 : Int)) = (n0 : Int) + 256 * (n1 : Int) := by rw [IntKind.wrap_i64]; omega
  have e3 : IntKind.i64.wrap (65536 * (n2 : Int)) = 65536 * (n2 : Int) := by rw [IntKind.wrap_i64]; omega
  have e4 : IntKind.i64.wrap ((n0 : Int) + 256 * (n1 : Int) + 65536 * (n2 : Int)) = (n0 : Int) + 256 * (n1 : Int) + 65536 * (n2 : Int) := by rw [IntKind.wrap_i64]; omega
  have e5 : IntKind.i64.wrap (16777216 * (n3 : Int)) = 16777216 * (n3 : Int) := by rw [IntKind.wrap_i64]; omega
  have e6 : IntKind.i64.wrap ((n0 : Int) + 256 * (n1 : Int) + 65536 * (n2 : Int) + 16777216 * (n3 : Int)) = (n0 : Int) + 256 * (n1 : Int) + 65536 * (n2 : Int) + 16777216 * (n3 : Int) := by rw [IntKind.wrap_i64]; omega
  generalize crc (S.take (4 + n)) = m at *
  replace hlt := Lib.hid hlt
  replace hsu := Lib.hid hsu
  replace hfo := Lib.hid hfo
  replace hcv := Lib.hid hcv
  replace hys := Lib.hid hys
  replace hy := Lib.hid hy
  replace hne := Lib.hid hne
  have hbe : (le32 m == [y0, y1, y2, y3]) = false := beq_eq_false_iff_ne.2 hne.out
  clear hq
  replace hS := Lib.hid hS
  replace hs := Lib.hid hs
  clear hv
  go_enter Tryd.func60, Tryd.ntmps60
  go_upto_region 3 with fail
  refine wp_region_grows (by kernel_rfl) (by kernel_rfl) ?_
  repeat (any_goals (first | go_big_quiet_step (first | fail) | quiet_step (first | fail)))
  refine wpQuiet_nil ?_
  intro wz hwq
  have gz := GrW.of hwq
  clear hwq
  obtain ⟨cz, fz, sz⟩ := gz.cells
  try simp only [size_drewN] at cz fz sz
  try simp only [World.size_alloc] at cz fz sz
  try simp only [World.size_drew] at cz fz sz
  try simp only [World.size_setCell] at cz fz sz
  clear cz fz e1 e2 e3 e4 e5 e6
  have en : (n0 : Int) + 256 * (n1 : Int) + 65536 * (n2 : Int) + 16777216 * (n3 : Int) = (n : Int) := by omega
  rw [en]
  clear en hnn
  have hl2 : ¬ (S.length : Int) < (n : Int) + 8 := by omega
  have hn2 : ¬ (32768 : Int) < (n : Int) := by omega
  unfold maxLen at hm
  have hsu2 := hsu.out wz.drew (gz.drew)
  have hcv2 := hcv.out wz.drew (gz.drew)
  rw [Nat.add_comm 4 n] at hsu2 hcv2
  replace hcv := Lib.hid (by have := hcv.out; rw [Nat.add_comm 4 n] at this; exact this)
  have w1 : IntKind.i64.wrap ((n : Int) + 4) = (n : Int) + 4 := by rw [IntKind.wrap_i64]; omega
  have w2 : IntKind.i64.wrap ((n : Int) + 8) = (n : Int) + 8 := by rw [IntKind.wrap_i64]; omega
  have s0 : (0 : Int) ≤ (n : Int) + 4 := by omega
  have s1 : (n : Int) + 4 ≤ c := by omega
  have s2 : (n : Int) + 8 ≤ c := by omega
  have s3 : (n : Int) + 4 ≤ (n : Int) + 8 := by omega
  have s4 : ((n : Int) + 4).toNat = n + 4 := by omega
  have s5 : ((n : Int) + 8).toNat = n + 8 := by omega
  have s6 : n + 8 - (n + 4) = 4 := by omega
  have s7 : n + 4 < c := by omega
  replace hsu2 := Lib.hid hsu2
  go_upto_region 8 with fail
  go_region_with (first
    | (go_at_call 48; (with_reducible refine hsu2.out.mono ?_); rintro e w5 ⟨rfl, rfl⟩)
    | (go_at_call 47; (with_reducible refine (hfo.out wz.drew).mono ?_); rintro e w6 ⟨a6, c6, rfl, ho6⟩; have q6 := conv_any c6 ho6.2.1; have g6 := gz.drew.trans ho6.2.2.2.2; have p6 := hcv.out w6 g6; replace ho6 := Lib.hid ho6)
    | fail)
  all_goals
    go_wp2_with fail
    go_ret3
    exact ⟨rfl, g6⟩
set_option maxRecDepth 100000 in
set_option maxHeartbeats 6400000 in
theorem rread_good (w : World) (b off c : Nat) (S : List UInt8) (hS : BytesAt w (some ⟨b, off, none⟩) S) (x0 x1 x2 x3 y0 y1 y2 y3 : UInt8) (t r : List UInt8) (hs : S = x0 :: x1 :: x2 :: x3 :: t) (hn : un32 [x0, x1, x2, x3] ≤ 32768) (hl : un32 [x0, x1, x2, x3] + 8 ≤ S.length) (hc : S.length ≤ c) (hm : S.length ≤ maxLen) (hy : S.drop (4 + un32 [x0, x1, x2, x3]) = y0 :: y1 :: y2 :: y3 :: r) (hq : crc (S.take (4 + un32 [x0, x1, x2, x3])) = un32 [y0, y1, y2, y3]) :
    Calls Tryd.prog 60 #[.slice (some ⟨b, off, none⟩) S.length c] w fun e w' => ∃ a' c', e = .returned (.tuple #[.slice a' (un32 [x0, x1, x2, x3]) c', .int .i64 ((un32 [x0, x1, x2, x3] : Nat) + 8 : Int), .int .i64 0]) ∧ Own w w' a' c' ((S.drop 4).take (un32 [x0, x1, x2, x3])) := by
  have h4 : 4 ≤ S.length := by rw [hs]; simp
  have hlt : (S.take (4 + un32 [x0, x1, x2, x3])).length = 4 + un32 [x0, x1, x2, x3] := by rw [List.length_take]; omega
  have hsu := fun w1 (g : Gr w w1) => rsum_any (some ⟨b, off, none⟩) c (S.take (4 + un32 [x0, x1, x2, x3])) w1 ((hS.take _).gr g) (by omega)
  rw [hlt] at hsu
  have hfo := fun w1 => four_any (crc (S.take (4 + un32 [x0, x1, x2, x3]))) (crc_lt _) w1
  have hys : (S.drop (4 + un32 [x0, x1, x2, x3])).take 4 = [y0, y1, y2, y3] := by rw [hy]; rfl
  have hcv : ∀ w1, Gr w w1 → (convert 22 9 (.slice (some ⟨b, off + (4 + un32 [x0, x1, x2, x3]), none⟩) 4 (c - (4 + un32 [x0, x1, x2, x3])))).run Tryd.prog w1 = .ok (strB [y0, y1, y2, y3]) w1 := fun w1 g => by
    have h := conv_any (c - (4 + un32 [x0, x1, x2, x3])) (((hS.drop (4 + un32 [x0, x1, x2, x3])).take 4).gr g)
    rw [hys] at h
    exact h
  have hne : le32 (crc (S.take (4 + un32 [x0, x1, x2, x3]))) = [y0, y1, y2, y3] := by rw [hq, le32_un32]
  have hpl : ((S.drop 4).take (un32 [x0, x1, x2, x3])).length = un32 [x0, x1, x2, x3] := by rw [List.length_take, List.length_drop]; omega
  have hb4 := (hS.drop 4).take (un32 [x0, x1, x2, x3])
  have c0 := GrW.cell (hS.at' (i := 0) (d := x0) (by rw [hs]; rfl)).2
  have c1 := GrW.cell (hS.at' (i := 1) (d := x1) (by rw [hs]; rfl)).2
  have c2 := GrW.cell (hS.at' (i := 2) (d := x2) (by rw [hs]; rfl)).2
  have c3 := GrW.cell (hS.at' (i := 3) (d := x3) (by rw [hs]; rfl)).2
  rw [Nat.add_zero] at c0
  have d0 := x0.toNat_lt
  have d1 := x1.toNat_lt
  have d2 := x2.toNat_lt
  have d3 := x3.toNat_lt
  have hv : un32 [x0, x1, x2, x3] = x0.toNat + 256 * x1.toNat + 65536 * x2.toNat + 16777216 * x3.toNat := rfl
  obtain ⟨n, hnn⟩ : ∃ n, un32 [x0, x1, x2, x3] = n := ⟨_, rfl⟩
  rw [hnn] at hn hl hlt hsu hfo hcv hne hys hq hy hpl hb4 ⊢
  rw [hv] at hnn
  generalize x0.toNat = n0 at *
  generalize x1.toNat = n1 at *
  generalize x2.toNat = n2 at *
  generalize x3.toNat = n3 at *
  have l0 : (0 : Int) < S.length := by omega
  have l1 : (1 : Int) < S.length := by omega
  have l2 : (2 : Int) < S.length := by omega
  have l3 : (3 : Int) < S.length := by omega
  have l0' : 0 < S.length := by omega
  have l1' : 1 < S.length := by omega
  have l2' : 2 < S.length := by omega
  have l3' : 3 < S.length := by omega
  have hl2 : decide ((S.length : Int) < 4) = false := decide_eq_false (by omega)
  have e1 : IntKind.i64.wrap (256 * (n1 : Int)) = 256 * (n1 : Int) := by rw [IntKind.wrap_i64]; omega
  have e2 : IntKind.i64.wrap ((n0 : Int) + 256 * (n1 : Int)) = (n0 : Int) + 256 * (n1 : Int) := by rw [IntKind.wrap_i64]; omega
  have e3 : IntKind.i64.wrap (65536 * (n2 : Int)) = 65536 * (n2 : Int) := by rw [IntKind.wrap_i64]; omega
  have e4 : IntKind.i64.wrap ((n0 : Int) + 256 * (n1 : Int) + 65536 * (n2 : Int)) = (n0 : Int) + 256 * (n1 : Int) + 65536 * (n2 : Int) := by rw [IntKind.wrap_i64]; omega
  have e5 : IntKind.i64.wrap (16777216 * (n3 : Int)) = 16777216 * (n3 : Int) := by rw [IntKind.wrap_i64]; omega
  have e6 : IntKind.i64.wrap ((n0 : Int) + 256 * (n1 : Int) + 65536 * (n2 : Int) + 16777216 * (n3 : Int)) = (n0 : Int) + 256 * (n1 : Int) + 65536 * (n2 : Int) + 16777216 * (n3 : Int) := by rw [IntKind.wrap_i64]; omega
  generalize crc (S.take (4 + n)) = m at *
  replace hlt := Lib.hid hlt
  replace hsu := Lib.hid hsu
  replace hfo := Lib.hid hfo
  replace hcv := Lib.hid hcv
  replace hys := Lib.hid hys
  replace hy := Lib.hid hy
  replace hne := Lib.hid hne
  have hbe : (le32 m == [y0, y1, y2, y3]) = true := beq_iff_eq.2 hne.out
  obtain ⟨P, hP⟩ : ∃ P, P = (S.drop 4).take n := ⟨_, rfl⟩
  rw [← hP] at hpl hb4 ⊢
  replace hpl := Lib.hid hpl
  replace hb4 := Lib.hid hb4
  replace hP := Lib.hid hP
  clear hq
  replace hS := Lib.hid hS
  replace hs := Lib.hid hs
  clear hv
  go_enter Tryd.func60, Tryd.ntmps60
  go_upto_region 3 with fail
  refine wp_region_grows (by kernel_rfl) (by kernel_rfl) ?_
  repeat (any_goals (first | go_big_quiet_step (first | fail) | quiet_step (first | fail)))
  refine wpQuiet_nil ?_
  intro wz hwq
  have gz := GrW.of hwq
  clear hwq
  obtain ⟨cz, fz, sz⟩ := gz.cells
  try simp only [size_drewN] at cz fz sz
  try simp only [World.size_alloc] at cz fz sz
  try simp only [World.size_drew] at cz fz sz
  try simp only [World.size_setCell] at cz fz sz
  clear cz fz e1 e2 e3 e4 e5 e6
  have en : (n0 : Int) + 256 * (n1 : Int) + 65536 * (n2 : Int) + 16777216 * (n3 : Int) = (n : Int) := by omega
  rw [en]
  clear en hnn
  have hl2 : ¬ (S.length : Int) < (n : Int) + 8 := by omega
  have hn2 : ¬ (32768 : Int) < (n : Int) := by omega
  unfold maxLen at hm
  have hsu2 := hsu.out wz.drew (gz.drew)
  have hcv2 := hcv.out wz.drew (gz.drew)
  rw [Nat.add_comm 4 n] at hsu2 hcv2
  replace hcv := Lib.hid (by have := hcv.out; rw [Nat.add_comm 4 n] at this; exact this)
  have w1 : IntKind.i64.wrap ((n : Int) + 4) = (n : Int) + 4 := by rw [IntKind.wrap_i64]; omega
  have w2 : IntKind.i64.wrap ((n : Int) + 8) = (n : Int) + 8 := by rw [IntKind.wrap_i64]; omega
  have s0 : (0 : Int) ≤ (n : Int) + 4 := by omega
  have s1 : (n : Int) + 4 ≤ c := by omega
  have s2 : (n : Int) + 8 ≤ c := by omega
  have s3 : (n : Int) + 4 ≤ (n : Int) + 8 := by omega
  have s4 : ((n : Int) + 4).toNat = n + 4 := by omega
  have s5 : ((n : Int) + 8).toNat = n + 8 := by omega
  have s6 : n + 8 - (n + 4) = 4 := by omega
  have s7 : n + 4 < c := by omega
  replace hsu2 := Lib.hid hsu2
  go_upto_region 8 with fail
  go_region_with (first
    | (go_at_call 48; (with_reducible refine hsu2.out.mono ?_); rintro e w5 ⟨rfl, rfl⟩)
    | (go_at_call 47; (with_reducible refine (hfo.out wz.drew).mono ?_); rintro e w6 ⟨a6, c6, rfl, ho6⟩; have q6 := conv_any c6 ho6.2.1; have g6 := gz.drew.trans ho6.2.2.2.2; have p6 := hcv.out w6 g6; replace ho6 := Lib.hid ho6)
    | fail)
  all_goals
    clear w1 w2
    have hE0 := own_empty w6 #[] rfl
    have hb6 := hb4.out.gr (g6.alloc (.cells #[] 5))
    replace hE0 := Lib.hid hE0
    replace hb6 := Lib.hid hb6
    have v1 : (4 : Int) ≤ (n : Int) + 4 := by omega
    have v2 : n + 4 - 4 = n := by omega
    go_wp2_with (at_builtin; go_loud (refine wpList_app2 (W := w6) rfl _ _ rfl (some ⟨w6.heap.size, 0, none⟩) 0 0 [] rfl rfl hE0.out (some ⟨b, off + 4, none⟩) (c - 4) P (by rw [hpl.out]; rfl) hb6.out (fun h => by cases h) (by rw [hpl.out]; omega) ?_; intro a8 c8 w8 hO8 hg8 hat8; clear hg8 hat8; rw [List.nil_append] at hO8 ⊢; rw [hpl.out]; replace hO8 := Lib.hid hO8))
    go_ret3
    exact ⟨a8, c8, rfl, hO8.out.older g6⟩
end Go.Proofs.YtlgbnjaoadlolaaDoor
