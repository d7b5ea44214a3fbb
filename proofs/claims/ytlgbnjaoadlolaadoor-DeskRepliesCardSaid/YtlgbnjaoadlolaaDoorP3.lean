/- crc.put, crc.Frame, crc.get. -/
import Derived.Test.YtlgbnjaoadlolaaDoorP2
namespace Go.Proofs.YtlgbnjaoadlolaaDoor
open Go.RowKit

theorem Tryd.infoU8 : (Tryd.prog.info? 5).map (fun i => (i.zero, i.size, i.bytes)) = some (some (.int .u8 0), 1, 1) := by kernel_rfl
theorem recs_alloc1 {α : Type} {k : Nat} {enc : α → List Value} (hk : ∀ s, (enc s).length = k) (W : World) {n : Nat} (hn : W.heap.size = n) (l : List α) (e : TypeId) (cs : Array Value) (h : cs.toList = l.flatMap enc) : RecsAt k enc (W.alloc (.cells cs e)) (some ⟨n, 0, none⟩) l := by
  subst hn
  exact recs_alloc hk W l e cs h
/-- A row of bytes that the call itself made. -/
def Own (W w : World) (a : Option Addr) (c : Nat) (l : List UInt8) : Prop := w.ownsRow W.heap.size 5 1 (.slice a l.length c) l.length (l.flatMap byteC) ∧ BytesAt w a l ∧ (a = none → c = 0) ∧ (∀ x, a = some x → W.heap.size ≤ x.block) ∧ Gr W w
theorem Own.nil (W w : World) (g : Gr W w) : Own W w none 0 [] := ⟨World.ownsRow_nil _ _ _ _, fun i s hi => by simp at hi, (fun _ => rfl), (fun x hx => by cases hx), g⟩
theorem Own.of {W w : World} {v : Value} {l : List UInt8} (h : w.ownsRow W.heap.size 5 1 v l.length (l.flatMap byteC)) (g : Gr W w) : ∃ a c, v = .slice a l.length c ∧ Own W w a c l := by
  obtain ⟨a, c, rfl, hr, hn, hb⟩ := recs_of_owns byteC_len h
  exact ⟨a, c, rfl, h, hr, hn, hb, g⟩
theorem Own.gr {W w w' : World} {a : Option Addr} {c : Nat} {l : List UInt8} (h : Own W w a c l) (g : Gr w w') : Own W w' a c l := ⟨owns_gr h.1 g, h.2.1.gr g, h.2.2.1, h.2.2.2.1, h.2.2.2.2.trans g⟩
theorem le32_len (n : Nat) : (le32 n).length = 4 := rfl
theorem le32_cells {n : Nat} (hn : n < 4294967296) : #[Value.int .u8 ((n : Int) % 256), .int .u8 ((n : Int) / 256 % 256), .int .u8 ((n : Int) / 65536 % 256), .int .u8 ((n : Int) / 16777216)].toList = (le32 n).flatMap byteC := by
  have e : ∀ m : Nat, ((UInt8.ofNat m).toNat : Int) = (m : Int) % 256 := fun m => by rw [UInt8.toNat_ofNat']; rfl
  have e2 : (n : Int) / 16777216 = ((n / 16777216 : Nat) : Int) % 256 := by omega
  rw [e2]
  simp only [le32, byteC, List.flatMap_cons, List.flatMap_nil, e, List.cons_append, List.nil_append]
  rfl

set_option maxRecDepth 100000 in
set_option maxHeartbeats 800000 in
theorem put_any (W w : World) (a : Option Addr) (c : Nat) (l : List UInt8) (n : Nat) (hn : n < 4294967296) (h : Own W w a c l) (hm : l.length ≤ 1000000) :
    Calls Tryd.prog 64 #[.slice a l.length c, .int .u32 n] w fun e w' => ∃ a' c', e = .returned (.slice a' (l ++ le32 n).length c') ∧ Own W w' a' c' (l ++ le32 n) := by
  obtain ⟨i5, hi, hz0, hz1, hz2⟩ := info_parts Tryd.infoU8
  obtain ⟨hown, hr, hc, hb, g⟩ := h
  have n1 : l.length + (le32 n).length ≤ maxLen := by rw [le32_len]; unfold maxLen; omega
  have n2 : (l.length + (le32 n).length) * 1 ≤ 140737488355328 := by rw [le32_len]; omega
  have n3 := g.size
  replace hr := Lib.hid hr
  replace hb := Lib.hid hb
  replace hc := Lib.hid hc
  go_enter Tryd.func64, Tryd.ntmps64
  go_wp2_with (at_builtin; go_loud (refine wpList_append_recs (k := 1) (enc := byteC) rfl _ _ 22 rfl W.heap.size 5 i5 _ 1 Tryd.underlying22 hi hz0 hz1 hz2 rfl (by decide) byteC_len byteC_one (.slice a l.length c) l rfl (owns_gr hown ((Gr.refl w).alloc _)) (some ⟨w.heap.size, 0, none⟩) 4 (le32 n) rfl (recs_alloc byteC_len w (le32 n) _ _ (le32_cells hn)) (fun h => by cases h) n1 n2 (le_alloc n3 _) ?_; intro v1 w1 hown1 hgr1; have hg1 : Gr W w1 := (g.alloc _).grown hgr1 (own_block hown)))
  go_ret
  obtain ⟨a', c', rfl, ho⟩ := Own.of hown1 hg1
  exact ⟨a', c', rfl, ho⟩

set_option maxRecDepth 100000 in
set_option maxHeartbeats 1600000 in
theorem frame_any (w : World) (a : Option Addr) (c : Nat) (l : List UInt8) (h : BytesAt w a l) (hc : a = none → c = 0) (hl : l.length ≤ 32768) :
    Calls Tryd.prog 50 #[.slice a l.length c] w fun e w' => ∃ a' c', e = .returned (.tuple #[.slice a' (frameB l).length c', .nilIface]) ∧ Own w w' a' c' (frameB l) := by
  obtain ⟨i5, hi, hz0, hz1, hz2⟩ := info_parts Tryd.infoU8
  have hp1 := put_any w w none 0 [] l.length (by omega) (Own.nil w w (Gr.refl w)) (by simp)
  have hfl := frameB_len l
  obtain ⟨L2, hL2⟩ : ∃ L2, L2 = le32 l.length ++ l := ⟨_, rfl⟩
  have hL2l : L2.length = 4 + l.length := by rw [hL2, List.length_append, le32_len]
  have hsu := fun a1 c1 w1 (hb : BytesAt w1 a1 L2) => csum_any a1 c1 L2 w1 hb (by unfold maxLen; omega)
  have hp2 := fun a1 c1 w1 (ho : Own w w1 a1 c1 L2) => put_any w w1 a1 c1 L2 (crc L2) (crc_lt _) ho (by omega)
  have hfr : L2 ++ le32 (crc L2) = frameB l := by rw [hL2]; rfl
  rw [hfr] at hp2
  have n1 : (le32 l.length).length + l.length ≤ maxLen := by rw [le32_len]; unfold maxLen; omega
  have n2 : ((le32 l.length).length + l.length) * 1 ≤ 140737488355328 := by rw [le32_len]; omega
  rw [show ([] : List UInt8) ++ le32 l.length = le32 l.length from rfl] at hp1
  replace hp1 := Lib.hid hp1
  replace hp2 := Lib.hid hp2
  replace hsu := Lib.hid hsu
  replace h := Lib.hid h
  replace hfl := Lib.hid hfl
  replace hL2 := Lib.hid hL2
  replace hfr := Lib.hid hfr
  replace hL2l := Lib.hid hL2l
  go_enter Tryd.func50, Tryd.ntmps50
  go_wp2_with fail
  refine hp1.out.mono ?_
  rintro e w1 ⟨a1, c1, rfl, ho1⟩
  obtain ⟨ow, br, bn, bb, g1⟩ := ho1
  have n3 := g1.size
  have hs1 := h.out.gr g1
  replace br := Lib.hid br
  replace bb := Lib.hid bb
  replace bn := Lib.hid bn
  replace hs1 := Lib.hid hs1
  go_wp2_with (at_builtin; go_loud (refine wpList_append_recs (k := 1) (enc := byteC) rfl _ _ 22 rfl w.heap.size 5 i5 _ 1 Tryd.underlying22 hi hz0 hz1 hz2 rfl (by decide) byteC_len byteC_one (.slice a1 (le32 l.length).length c1) (le32 l.length) rfl ow a c l rfl hs1.out hc n1 n2 n3 ?_; intro v2 w2 hown2 hgr2; rw [← hL2.out] at hown2; have g2 : Gr w w2 := g1.grown hgr2 (own_block ow); obtain ⟨a2, c2, hv2, ho2⟩ := Own.of hown2 g2; subst hv2; have hb2 := ho2.2.1; replace ho2 := Lib.hid ho2; replace hb2 := Lib.hid hb2))
  refine (hsu.out a2 c2 w2 hb2.out).mono ?_
  rintro e w3 ⟨rfl, rfl⟩
  go_wp2_with fail
  refine (hp2.out a2 c2 w2 ho2.out).mono ?_
  rintro e w4 ⟨a4, c4, rfl, ho4⟩
  replace ho4 := Lib.hid ho4
  go_wp2_with fail
  go_ret2
  exact ⟨a4, c4, rfl, ho4.out⟩

theorem or_low (i : Nat) (hi : i ≤ 32) {x y : Nat} (hx : x < 2 ^ i) (hy : y * 2 ^ i < 4294967296) : bits .or .u32 (x : Int) ((y * 2 ^ i : Nat) : Int) = ((x + y * 2 ^ i : Nat) : Int) := by
  have h1 : 2 ^ i ≤ 2 ^ 32 := Nat.pow_le_pow_right (by decide) hi
  rw [(bits_nat .u32 32 (by decide) wraps_u32 x (y * 2 ^ i) (Nat.lt_of_lt_of_le hx h1) hy).2, Nat.or_comm, Nat.mul_comm, ← Nat.two_pow_add_eq_or_of_lt hx y, Nat.add_comm]
theorem or_word {a b c d : Nat} (ha : a < 2 ^ 8) (hb : b < 2 ^ 8) (hc : c < 2 ^ 8) (hd : d < 2 ^ 8) :
    bits .or .u32 (bits .or .u32 (bits .or .u32 (a : Int) ((b : Int) * 256)) ((c : Int) * 65536)) ((d : Int) * 16777216) = ((a + 256 * b + 65536 * c + 16777216 * d : Nat) : Int) := by
  have h1 : bits .or .u32 (a : Int) ((b : Int) * 256) = ((a + b * 256 : Nat) : Int) := or_low 8 (by decide) ha (by omega)
  have h2 : bits .or .u32 ((a + b * 256 : Nat) : Int) ((c : Int) * 65536) = ((a + b * 256 + c * 65536 : Nat) : Int) := or_low 16 (by decide) (by omega) (by omega)
  have h3 : bits .or .u32 ((a + b * 256 + c * 65536 : Nat) : Int) ((d : Int) * 16777216) = ((a + b * 256 + c * 65536 + d * 16777216 : Nat) : Int) := or_low 24 (by decide) (by omega) (by omega)
  rw [h1, h2, h3]
  omega
set_option maxHeartbeats 1600000 in
theorem get_any (w : World) (b o n c : Nat) (x0 x1 x2 x3 : UInt8) (hn : 4 ≤ n) (h0 : w.cell? ⟨b, o, none⟩ = some (.int .u8 (x0.toNat : Int))) (h1 : w.cell? ⟨b, o + 1, none⟩ = some (.int .u8 (x1.toNat : Int))) (h2 : w.cell? ⟨b, o + 2, none⟩ = some (.int .u8 (x2.toNat : Int))) (h3 : w.cell? ⟨b, o + 3, none⟩ = some (.int .u8 (x3.toNat : Int))) :
    Calls Tryd.prog 66 #[.slice (some ⟨b, o, none⟩) n c] w fun e w' => e = .returned (.int .u32 (un32 [x0, x1, x2, x3])) ∧ Gr w w' := by
  have q0 := GrW.cell h0
  have q1 := GrW.cell h1
  have q2 := GrW.cell h2
  have q3 := GrW.cell h3
  have t0 := x0.toNat_lt
  have t1 := x1.toNat_lt
  have t2 := x2.toNat_lt
  have t3 := x3.toNat_lt
  have m1 : (1 : Int) < n := by omega
  have m2 : (2 : Int) < n := by omega
  have m3 : (3 : Int) < n := by omega
  have m0 : (0 : Int) < n := by omega
  go_enter Tryd.func66, Tryd.ntmps66
  go_wp2_with fail
  refine wp_region_grows (by kernel_rfl) (by kernel_rfl) ?_
  repeat (any_goals (first | go_big_quiet_step (first | fail) | quiet_step (first | fail)))
  refine wpQuiet_nil ?_
  intro wz hwq
  have gz := GrW.of hwq
  clear hwq
  obtain ⟨cz, fz, sz⟩ := gz.cells
  try simp only [size_drewN] at cz fz sz
  try simp only [World.size_alloc] at cz fz sz
  try simp only [World.size_drew] at cz fz sz
  try simp only [World.size_setCell] at cz fz sz
  go_wp2_with fail
  go_ret
  exact ⟨congrArg (fun v => Ending.returned (.int .u32 v)) (or_word t0 t1 t2 t3), gz⟩
end Go.Proofs.YtlgbnjaoadlolaaDoor
