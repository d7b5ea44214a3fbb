/- almonerref01: Times. -/
import Derived.Test.YtmookdgeblcjnaaDoorN1
import Derived.Test.YtmookdgeblcjnaaDoorA3
namespace Go.Proofs.YtmookdgeblcjnaaDoor
open Go.RowKit

theorem made_digs (n : Nat) : (madeCells (Value.int .u32 0).cells (n * 1)).toList = (List.replicate n (0 : Int)).flatMap digC := by
  have e : (List.replicate n (0 : Int)).flatMap digC = List.replicate n (.int .u32 0) := by
    induction n with
    | zero => rfl
    | succ n ih => rw [List.replicate_succ, List.flatMap_cons, ih, List.replicate_succ]; rfl
  rw [e]
  simp [madeCells, Value.cells, Nat.mod_one, List.map_const']

/-- What a round of the inner loop knows: the row so far, the carry. -/
def RowInv (da rs : List Int) (i j : Nat) (x c : Int) : Prop :=
  rs.length = i + j ∧ Dig rs ∧ 0 ≤ c ∧ c < 65536 ∧ valD rs + P64 (i + j) * c = x * (P64 i * valD (da.take j))
theorem rowInv_start (da : List Int) (i : Nat) (x : Int) : RowInv da (List.replicate i 0) i 0 x 0 :=
  ⟨by simp, Dig.zeros i, by decide, by decide, by rw [valD_zeros]; simp [valD]⟩
theorem rowInv_step {da rs : List Int} {i j : Nat} {x c y : Int} (h : RowInv da rs i j x c) (hy : da[j]? = some y) (bx : 0 ≤ x ∧ x < 65536) (by' : 0 ≤ y ∧ y < 65536) :
    RowInv da (rs ++ [(x * y + c) % 65536]) i (j + 1) x ((x * y + c) / 65536) ∧ 0 ≤ x * y ∧ x * y ≤ 4294836225 := by
  obtain ⟨h1, h2, h3, h4, h5⟩ := h
  have m := mul_bd bx.1 (show x ≤ 65535 by omega) by'.1 (show y ≤ 65535 by omega)
  refine ⟨⟨by simp [h1]; omega, h2.append (Dig.one ⟨by omega, by omega⟩), by omega, by omega, ?_⟩, m.1, by omega⟩
  rw [valD_append, valD_one, h1, take_some hy, show i + (j + 1) = i + j + 1 from rfl, P64_succ, Int.mul_add (P64 i), ← Int.mul_assoc (P64 i), ← P64_add]
  exact mul_round h5
theorem rowInv_end {da rs : List Int} {i : Nat} {x c : Int} (h : RowInv da rs i da.length x c) : valD (rs ++ [c]) = x * (P64 i * valD da) ∧ Dig (rs ++ [c]) ∧ (rs ++ [c]).length = i + da.length + 1 := by
  obtain ⟨h1, h2, h3, h4, h5⟩ := h
  rw [List.take_length] at h5
  refine ⟨?_, h2.append (Dig.one ⟨h3, h4⟩), by simp [h1]⟩
  rw [valD_append, valD_one, h1]
  exact h5

/-- What a round of the outer loop knows. -/
def TimesInv (da db ds : List Int) (k : Nat) : Prop :=
  valD ds = valD da * valD (db.take k) ∧ Dig ds ∧ ds.length ≤ da.length + k + 1 ∧ (1 ≤ k → da.length + k ≤ ds.length)
theorem timesInv_step {da db ds os : List Int} {k : Nat} {x : Int} (h : TimesInv da db ds k) (hx : db[k]? = some x) (hv : valD os = valD ds + x * (P64 k * valD da)) (hd : Dig os)
    (h1 : max ds.length (k + da.length + 1) ≤ os.length) (h2 : os.length ≤ max ds.length (k + da.length + 1) + 1) : TimesInv da db os (k + 1) := by
  obtain ⟨g1, g2, g3, g4⟩ := h
  refine ⟨?_, hd, by omega, by omega⟩
  rw [hv, g1, take_some hx, Int.mul_add]
  congr 1
  rw [Int.mul_comm x, Int.mul_comm (P64 k) (valD da), Int.mul_assoc]

set_option maxHeartbeats 1600000 in
theorem btimes_any (a b : Option Addr) (da db : List Int) (ca cb : Nat) (w : World) (ha : BigAt w a da) (hb : BigAt w b db) (ga : Dig da) (gb : Dig db) (la : da.length ≤ 100) (lb : db.length ≤ 100) (lb1 : 1 ≤ db.length) :
    Calls Tryd.prog 77 #[.slice a da.length ca, .slice b db.length cb] w (BigP (valD da * valD db) (da.length + db.length) (da.length + db.length + 1) w) := by
  obtain ⟨i109, hi, hz0, hz1, hz2⟩ := info_parts Tryd.infoU32
  go_enter Tryd.func77, Tryd.ntmps77
  go_wp2_with fail
  go_loopw [16, 5] (fun iv v wr => ∃ (k : Nat) (ds : List Int) (a' : Option Addr) (c' : Nat), k ≤ db.length ∧ TimesInv da db ds k ∧ iv = .int .i64 k ∧ v = .slice a' ds.length c' ∧ BigAt wr a' ds ∧ (a' = none → c' = 0) ∧ Cap ds.length c' ∧ Gr w wr) (fun iv _ _ => db.length - (intOf iv).toNat)
  case atStart => exact ⟨0, [], some ⟨w.heap.size, 0, none⟩, 0, Nat.zero_le _, ⟨by simp [valD], (fun _ h => by cases h), by simp, by omega⟩, rfl, rfl, (fun i s h => by simp at h), (fun h => by cases h), ⟨Nat.le_refl _, Nat.zero_le _⟩, (Gr.refl _).alloc _⟩
  case round =>
    obtain ⟨k, ds, a', c', hk, hinv, rfl, rfl, hds, hn, hcap, hg⟩ := hrel
    obtain ⟨t1, t2, t3, t4⟩ := (show TimesInv da db ds k from hinv)
    clear t1
    by_cases hlt : k < db.length
    · obtain ⟨x, hx⟩ := get_some db k hlt
      obtain ⟨bb, ob, rfl, hbb, cx⟩ := (hb.gr hg).get hx
      obtain ⟨bx1, bx2⟩ := gb.get hx
      have k63 : k ≤ maxLen := by unfold maxLen; omega
      have kby : i109.bytes * k ≤ 281474976710656 := by
        have : i109.bytes = 4 := by assumption
        rw [this]; omega
      go_wp2_with (at_make; refine wpList_make_full wr rfl _ _ 110 rfl wr.heap.size 121 i109 _ 1 Tryd.underlying110 hi hz0 hz1 .i64 .i64 _ _ k rfl rfl rfl rfl kby k63 (Nat.le_refl _) ?_; intro w1 hown1 hgr1)
      have gw1 : Gr wr w1 := (Gr.refl wr).grown hgr1 (fun k h => by cases h)
      clear hgr1
      rw [made_digs] at hown1
      replace hinv := Lib.hid hinv
      obtain ⟨wo, rfl⟩ : ∃ wo : World, wo = wr := ⟨_, rfl⟩
      go_loopw [8, 9, 25] (fun rv cv jv wx => ∃ (j : Nat) (c : Int) (rs : List Int), RowInv da rs k j x c ∧ j ≤ da.length ∧ jv = .int .i64 j ∧ cv = .int .u32 c ∧ wx.ownsRow wo.heap.size 121 1 rv rs.length (rs.flatMap digC) ∧ Gr wo wx) (fun _ _ jv _ => da.length - (intOf jv).toNat)
      case atStart =>
        refine ⟨0, 0, List.replicate k 0, rowInv_start da k x, Nat.zero_le _, rfl, rfl, ?_, gw1⟩
        rw [List.length_replicate]; exact hown1
      case round =>
        obtain ⟨j, c, rs, hri, hj, rfl, rfl, hown, hgx⟩ := hrel
        obtain ⟨r1, r2, r3, r4, r5⟩ := (show RowInv da rs k j x c from hri)
        have n1 : rs.length + ([(0 : Int)] : List Int).length ≤ maxLen := by unfold maxLen; simp; omega
        have n2 : (rs.length + ([(0 : Int)] : List Int).length) * 4 ≤ 140737488355328 := by simp; omega
        have n4 : wo.heap.size ≤ wr.heap.size := hgx.size
        have gwx : Gr w wr := hg.trans hgx
        clear r5
        replace r1 := Lib.hid r1
        by_cases hjl : j < da.length
        · obtain ⟨y, hy⟩ := get_some da j hjl
          obtain ⟨ba, oa, rfl, hba, cy⟩ := (ha.gr gwx).get hy
          obtain ⟨by1, by2⟩ := ga.get hy
          obtain ⟨step, m1, m2⟩ := rowInv_step hri hy ⟨bx1, bx2⟩ ⟨by1, by2⟩
          have em := and_low16_32 (x * y + c) (by omega) (by omega)
          replace step := Lib.hid step
          clear hri
          go_wp2_with (at_builtin; refine wpList_append_recs (k := 1) (enc := digC) rfl _ _ 110 rfl wo.heap.size 121 i109 _ 4 Tryd.underlying110 hi hz0 hz1 hz2 rfl (by decide) digC_len digC_one _ rs rfl (hown.alloc _) (some ⟨wr.heap.size, 0, none⟩) 1 [(x * y + c) % 65536] rfl (recs_alloc digC_len wr [(x * y + c) % 65536] _ _ rfl) (fun h => by cases h) n1 n2 (le_alloc n4 _) ?_; intro v2 w2 hown2 hgr2)
          have hg2 : Gr wo w2 := (hgx.alloc _).grown hgr2 (own_block hown)
          go_wp2_with fail
          go_roundw
          case rel => exact ⟨j + 1, _, _, step.out, by omega, by go_num, rfl, hown2, hg2⟩
          case measure => simp [intOf]; omega
        · obtain rfl : j = da.length := by omega
          obtain ⟨v1, v2, v3⟩ := rowInv_end hri
          have hz : w.heap.size ≤ wo.heap.size := hg.size
          clear hri
          replace v1 := Lib.hid v1
          replace v3 := Lib.hid v3
          go_wp2_with (at_builtin; refine wpList_append_recs (k := 1) (enc := digC) rfl _ _ 110 rfl wo.heap.size 121 i109 _ 4 Tryd.underlying110 hi hz0 hz1 hz2 rfl (by decide) digC_len digC_one _ rs rfl (hown.alloc _) (some ⟨wr.heap.size, 0, none⟩) 1 [c] rfl (recs_alloc digC_len wr [c] _ _ rfl) (fun h => by cases h) n1 n2 (le_alloc n4 _) ?_; intro v5 w2 hown2 hgr2)
          have hg2 : Gr wo w2 := (hgx.alloc _).grown hgr2 (own_block hown)
          obtain ⟨a2, c2, hv5, hr2, hn2, _⟩ := recs_of_owns digC_len hown2
          rw [hv5]
          have hb := bplus_any a' a2 ds (rs ++ [c]) c' c2 w2 (hds.gr hg2) hr2 t2 v2 (by omega) (by rw [v3.out]; omega)
          refine (hb).mono ?_
          rintro e w3 ⟨os, a3, c3, rfl, o1, o2, o3, o4, o5, o6, o8, o7⟩
          have hinv' := timesInv_step hinv.out hx (by rw [o1, v1.out]) o2 (by rw [v3.out] at o3; omega) (by rw [v3.out] at o4; omega)
          have hgz : Gr w w3 := (hg.trans hg2).trans o7
          clear hinv o1 o2 o3 o4
          go_wp2_with fail
          go_roundw
          case rel => exact ⟨k + 1, os, a3, c3, by omega, hinv', by go_num, rfl, o5, o6, o8, hgz⟩
          case measure => simp [intOf]; omega
    · obtain rfl : k = db.length := by omega
      obtain ⟨t1, _, _, _⟩ := hinv
      rw [List.take_length] at t1
      replace t1 := Lib.hid t1
      go_wp2_with fail
      go_ret
      exact ⟨ds, a', c', rfl, t1.out, t2, by omega, by omega, hds, hn, hcap, hg⟩
end Go.Proofs.YtmookdgeblcjnaaDoor
