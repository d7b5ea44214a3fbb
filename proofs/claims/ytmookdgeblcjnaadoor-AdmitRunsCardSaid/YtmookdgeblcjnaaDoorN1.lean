/- almonerref01: Of, Plus. -/
import Derived.Test.YtmookdgeblcjnaaDoorN0
import Derived.Test.YtmookdgeblcjnaaDoorA2
namespace Go.Proofs.YtmookdgeblcjnaaDoor
open Go.RowKit

theorem Tryd.infoU32 : (Tryd.prog.info? 121).map (fun i => (i.zero, i.size, i.bytes)) = some (some (.int .u32 0), 1, 4) := by kernel_rfl

theorem and_low16 (z : Int) (h0 : 0 ≤ z) (h1 : z < 18446744073709551616) : bits .and .u64 z 65535 = z % 65536 := by go_bits2
theorem and_low16_32 (z : Int) (h0 : 0 ≤ z) (h1 : z < 4294967296) : bits .and .u32 z 65535 = z % 65536 := by
  have h16 : (BitVec.ofInt 32 65535).toNat = 2 ^ 16 - 1 := by decide
  have key : (BitVec.ofInt 32 z &&& BitVec.ofInt 32 65535).toNat = (z % ((2 ^ 32 : Nat) : Int)).toNat % 2 ^ 16 := by
    rw [BitVec.toNat_and, BitVec.toNat_ofInt, h16, Nat.and_two_pow_sub_one_eq_mod]
  show IntKind.u32.wrap ((BitVec.ofInt 32 z &&& BitVec.ofInt 32 65535).toNat : Nat) = z % 65536
  rw [key, IntKind.wrap_u32]
  omega

set_option maxHeartbeats 800000 in
theorem bof_any (n : Int) (w : World) (h0 : 0 ≤ n) (h1 : n < 18446744073709551616) :
    Calls Tryd.prog 79 #[.int .u64 n] w fun e w' => e = .returned (.slice (some ⟨w.heap.size, 0, none⟩) (digs4 n).length 4) ∧ BigAt w' (some ⟨w.heap.size, 0, none⟩) (digs4 n) ∧ Gr w w' := by
  have e0 := and_low16 n h0 h1
  have e1 := and_low16 (n / 65536) (by omega) (by omega)
  have e2 := and_low16 (n / 4294967296) (by omega) (by omega)
  go_enter Tryd.func79, Tryd.ntmps79
  go_wp2_with fail
  go_ret
  refine ⟨rfl, ?_, (Gr.refl _).alloc _⟩
  exact recs_alloc digC_len w (digs4 n) _ _ rfl

/-- What a round of Plus knows. -/
def PlusInv (da db ds : List Int) (i : Nat) (c : Int) : Prop :=
  ds.length = i ∧ Dig ds ∧ 0 ≤ c ∧ c ≤ 1 ∧ valD ds + P64 i * c = valD (da.take i) + valD (db.take i) ∧ i ≤ max da.length db.length + 1 ∧ (i = max da.length db.length + 1 → c = 0)

theorem plusInv_step {da db ds : List Int} {i : Nat} {c x y : Int} (h : PlusInv da db ds i c) (hx : da[i]? = some x ∨ (da.length ≤ i ∧ x = 0)) (hy : db[i]? = some y ∨ (db.length ≤ i ∧ y = 0)) (bx : 0 ≤ x ∧ x < 65536) (by' : 0 ≤ y ∧ y < 65536) (hlt : i < max da.length db.length ∨ 0 < c) :
    PlusInv da db (ds ++ [(c + x + y) % 65536]) (i + 1) ((c + x + y) / 65536) := by
  obtain ⟨h1, h2, h3, h4, h5, h6, h7⟩ := h
  have ex : valD (da.take (i + 1)) = valD (da.take i) + P64 i * x := by
    rcases hx with hx | ⟨hx, rfl⟩
    · exact take_some hx
    · rw [take_none hx]; simp
  have ey : valD (db.take (i + 1)) = valD (db.take i) + P64 i * y := by
    rcases hy with hy | ⟨hy, rfl⟩
    · exact take_some hy
    · rw [take_none hy]; simp
  refine ⟨by simp [h1], h2.append (Dig.one ⟨by omega, by omega⟩), by omega, by omega, ?_, by omega, ?_⟩
  · rw [valD_append, valD_one, h1, ex, ey, P64_succ]
    exact plus_round h5
  · intro hi
    have hx0 : x = 0 := by
      rcases hx with hx | ⟨_, hx⟩
      · have := (List.getElem?_eq_some_iff.1 hx).1; omega
      · exact hx
    have hy0 : y = 0 := by
      rcases hy with hy | ⟨_, hy⟩
      · have := (List.getElem?_eq_some_iff.1 hy).1; omega
      · exact hy
    omega

set_option maxHeartbeats 1600000 in
theorem bplus_any (a b : Option Addr) (da db : List Int) (ca cb : Nat) (w : World) (ha : BigAt w a da) (hb : BigAt w b db) (ga : Dig da) (gb : Dig db) (la : da.length ≤ 1000) (lb : db.length ≤ 1000) :
    Calls Tryd.prog 76 #[.slice a da.length ca, .slice b db.length cb] w (BigP (valD da + valD db) (max da.length db.length) (max da.length db.length + 1) w) := by
  obtain ⟨i109, hi, hz0, hz1, hz2⟩ := info_parts Tryd.infoU32
  go_enter Tryd.func76, Tryd.ntmps76
  go_wp2_with fail
  go_loopw [5, 6, 7] (fun v cv iv wr => ∃ (i : Nat) (c : Int) (ds : List Int), PlusInv da db ds i c ∧ iv = .int .i64 i ∧ cv = .int .u32 c ∧ wr.ownsRow w.heap.size 121 1 v ds.length (ds.flatMap digC) ∧ Gr w wr) (fun _ _ iv _ => max da.length db.length + 1 - (intOf iv).toNat)
  case atStart => exact ⟨0, 0, [], ⟨rfl, (fun _ h => by cases h), by decide, by decide, by simp [valD], by omega, by omega⟩, rfl, rfl, owns_empty _ _ _ _ rfl _ (Nat.le_refl _), (Gr.refl _).alloc _⟩
  case round =>
    obtain ⟨i, c, ds, hinv, rfl, rfl, hown, hg⟩ := hrel
    obtain ⟨hi1, hi2, hi3, hi4, hi5, hi6, hi7⟩ := (show PlusInv da db ds i c from hinv)
    have n1 : ds.length + ([(0 : Int)] : List Int).length ≤ maxLen := by unfold maxLen; simp; omega
    have n2 : (ds.length + ([(0 : Int)] : List Int).length) * 4 ≤ 140737488355328 := by simp; omega
    have n3 : w.heap.size ≤ wr.heap.size := hg.size
    replace hi5 := Lib.hid hi5
    replace hi1 := Lib.hid hi1
    by_cases hxa : i < da.length
    · by_cases hxb : i < db.length
      · obtain ⟨x, hx⟩ := get_some da i hxa
        obtain ⟨ba, oa, rfl, hba, cx⟩ := (ha.gr hg).get hx
        have bx := ga.get hx
        obtain ⟨bx1, bx2⟩ := bx
        obtain ⟨y, hy⟩ := get_some db i hxb
        obtain ⟨bb, ob, rfl, hbb, cy⟩ := (hb.gr hg).get hy
        have by1 := gb.get hy
        obtain ⟨by2, by3⟩ := by1
        have step := plusInv_step hinv (.inl hx) (.inl hy) ⟨bx1, bx2⟩ ⟨by2, by3⟩ (.inl (by omega))
        have em := and_low16_32 (c + x + y) (by omega) (by omega)
        replace step := Lib.hid step
        clear hinv
        go_wp2_with (at_builtin; refine wpList_append_recs (k := 1) (enc := digC) rfl _ _ 110 rfl w.heap.size 121 i109 _ 4 Tryd.underlying110 hi hz0 hz1 hz2 rfl (by decide) digC_len digC_one _ ds rfl (hown.alloc _) (some ⟨wr.heap.size, 0, none⟩) 1 [(c + x + y) % 65536] rfl (recs_alloc digC_len wr [(c + x + y) % 65536] _ _ rfl) (fun h => by cases h) n1 n2 (le_alloc n3 _) ?_; intro v1 w1 hown1 hgr1)
        have hg1 : Gr w w1 := (hg.alloc _).grown hgr1 (own_block hown)
        go_wp2_with fail
        go_roundw
        case rel => exact ⟨i + 1, _, _, step.out, by go_num, rfl, hown1, hg1⟩
        case measure => simp [intOf]; omega
      · obtain ⟨x, hx⟩ := get_some da i hxa
        obtain ⟨ba, oa, rfl, hba, cx⟩ := (ha.gr hg).get hx
        have bx := ga.get hx
        obtain ⟨bx1, bx2⟩ := bx
        have step := plusInv_step hinv (.inl hx) (.inr ⟨by omega, rfl⟩) ⟨bx1, bx2⟩ (by decide) (.inl (by omega))
        simp only [Int.add_zero] at step
        have em := and_low16_32 (c + x) (by omega) (by omega)
        replace step := Lib.hid step
        clear hinv
        go_wp2_with (at_builtin; refine wpList_append_recs (k := 1) (enc := digC) rfl _ _ 110 rfl w.heap.size 121 i109 _ 4 Tryd.underlying110 hi hz0 hz1 hz2 rfl (by decide) digC_len digC_one _ ds rfl (hown.alloc _) (some ⟨wr.heap.size, 0, none⟩) 1 [(c + x) % 65536] rfl (recs_alloc digC_len wr [(c + x) % 65536] _ _ rfl) (fun h => by cases h) n1 n2 (le_alloc n3 _) ?_; intro v1 w1 hown1 hgr1)
        have hg1 : Gr w w1 := (hg.alloc _).grown hgr1 (own_block hown)
        go_wp2_with fail
        go_roundw
        case rel => exact ⟨i + 1, _, _, step.out, by go_num, rfl, hown1, hg1⟩
        case measure => simp [intOf]; omega
    · by_cases hxb : i < db.length
      · obtain ⟨y, hy⟩ := get_some db i hxb
        obtain ⟨bb, ob, rfl, hbb, cy⟩ := (hb.gr hg).get hy
        have by1 := gb.get hy
        obtain ⟨by2, by3⟩ := by1
        have step := plusInv_step hinv (.inr ⟨by omega, rfl⟩) (.inl hy) (by decide) ⟨by2, by3⟩ (.inl (by omega))
        simp only [Int.add_zero] at step
        have em := and_low16_32 (c + y) (by omega) (by omega)
        replace step := Lib.hid step
        clear hinv
        go_wp2_with (at_builtin; refine wpList_append_recs (k := 1) (enc := digC) rfl _ _ 110 rfl w.heap.size 121 i109 _ 4 Tryd.underlying110 hi hz0 hz1 hz2 rfl (by decide) digC_len digC_one _ ds rfl (hown.alloc _) (some ⟨wr.heap.size, 0, none⟩) 1 [(c + y) % 65536] rfl (recs_alloc digC_len wr [(c + y) % 65536] _ _ rfl) (fun h => by cases h) n1 n2 (le_alloc n3 _) ?_; intro v1 w1 hown1 hgr1)
        have hg1 : Gr w w1 := (hg.alloc _).grown hgr1 (own_block hown)
        go_wp2_with fail
        go_roundw
        case rel => exact ⟨i + 1, _, _, step.out, by go_num, rfl, hown1, hg1⟩
        case measure => simp [intOf]; omega
      · by_cases hc0 : 0 < c
        · have step := plusInv_step hinv (.inr ⟨by omega, rfl⟩) (.inr ⟨by omega, rfl⟩) (by decide) (by decide) (.inr (by omega))
          simp only [Int.add_zero] at step
          have em := and_low16_32 (c) (by omega) (by omega)
          replace step := Lib.hid step
          clear hinv
          go_wp2_with (at_builtin; refine wpList_append_recs (k := 1) (enc := digC) rfl _ _ 110 rfl w.heap.size 121 i109 _ 4 Tryd.underlying110 hi hz0 hz1 hz2 rfl (by decide) digC_len digC_one _ ds rfl (hown.alloc _) (some ⟨wr.heap.size, 0, none⟩) 1 [(c) % 65536] rfl (recs_alloc digC_len wr [(c) % 65536] _ _ rfl) (fun h => by cases h) n1 n2 (le_alloc n3 _) ?_; intro v1 w1 hown1 hgr1)
          have hg1 : Gr w w1 := (hg.alloc _).grown hgr1 (own_block hown)
          go_wp2_with fail
          go_roundw
          case rel => exact ⟨i + 1, _, _, step.out, by go_num, rfl, hown1, hg1⟩
          case measure => simp [intOf]; omega
        · obtain rfl : c = 0 := by omega
          have hfin : valD ds = valD da + valD db := by
            have := hi5.out
            rw [List.take_of_length_le (by omega), List.take_of_length_le (by omega)] at this
            omega
          replace hfin := Lib.hid hfin
          obtain ⟨a', c', hv, hr, hn, _⟩ := recs_of_owns digC_len hown
          have hcap := own_cap hown hv
          go_wp2_with fail
          go_ret
          exact ⟨ds, a', c', rfl, hfin.out, hi2, by have := hi1.out; omega, by have := hi1.out; omega, hr, hn, hcap, hg⟩
end Go.Proofs.YtmookdgeblcjnaaDoor
