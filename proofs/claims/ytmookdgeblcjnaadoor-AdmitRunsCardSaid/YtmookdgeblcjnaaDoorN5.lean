/- almonerref02: Back, Mul, Plus. -/
import Derived.Test.YtmookdgeblcjnaaDoorN4
namespace Go.Proofs.YtmookdgeblcjnaaDoor
open Go.RowKit

theorem P64_4 : P64 4 = 18446744073709551616 := by decide
theorem valD_zero {l : List Int} (hd : Dig l) (h : valD l = 0) : ∀ d ∈ l, d = 0 := by
  induction l with
  | nil => intro d h; cases h
  | cons x r ih =>
    intro d hm
    have h1 := hd x (List.mem_cons_self ..)
    have h2 : Dig r := fun y hy => hd y (List.mem_cons_of_mem _ hy)
    have h3 := (valD_bd h2).1
    rw [valD] at h
    rcases List.mem_cons.1 hm with rfl | hm
    · omega
    · exact ih h2 (by omega) d hm
theorem Dig.drop {a : List Int} (h : Dig a) (n : Nat) : Dig (a.drop n) := fun d hd => h d (List.mem_of_mem_drop hd)
theorem parts8 {ds : List Int} (hd : Dig ds) (h8 : 8 ≤ ds.length) (hw : valD ds < 340282366920938463463374607431768211456) :
    valD (ds.take 4) = loW (valD ds) ∧ valD ((ds.drop 4).take 4) = hiW (valD ds) ∧ ∀ i d, 8 ≤ i → ds[i]? = some d → d = 0 := by
  have e1 := valD_append (ds.take 4) (ds.drop 4)
  rw [List.take_append_drop, List.length_take, Nat.min_eq_left (by omega), P64_4] at e1
  have e2 := valD_append ((ds.drop 4).take 4) ((ds.drop 4).drop 4)
  rw [List.take_append_drop, List.length_take, List.length_drop, Nat.min_eq_left (by omega), P64_4] at e2
  have b1 := valD_bd (hd.take 4)
  rw [List.length_take, Nat.min_eq_left (by omega), P64_4] at b1
  have b2 := valD_bd ((hd.drop 4).take 4)
  rw [List.length_take, List.length_drop, Nat.min_eq_left (by omega), P64_4] at b2
  have b3 := (valD_bd ((hd.drop 4).drop 4)).1
  have hz : valD ((ds.drop 4).drop 4) = 0 := by omega
  rw [hz] at e2
  unfold loW hiW
  refine ⟨by omega, by omega, fun i d hi hid => valD_zero ((hd.drop 4).drop 4) hz d ?_⟩
  rw [List.drop_drop]
  refine List.mem_of_getElem? (i := i - 8) ?_
  rw [List.getElem?_drop, ← hid]
  congr 1; omega
theorem BigAt.take {w : World} {a : Option Addr} {l : List Int} (h : BigAt w a l) (n : Nat) : BigAt w a (l.take n) := recs_take h n
theorem BigAt.drop {w : World} {b off : Nat} {l : List Int} (h : BigAt w (some ⟨b, off, none⟩) l) (n : Nat) : BigAt w (some ⟨b, off + n, none⟩) (l.drop n) := by
  intro i s hi
  rw [List.getElem?_drop] at hi
  obtain ⟨b', o', ha, hb, hc⟩ := h _ s hi
  cases ha
  exact ⟨b, off + n, rfl, hb, fun j u hu => by have := hc j u hu; rw [Nat.mul_one] at this ⊢; rw [Nat.add_assoc off]; exact this⟩

set_option maxHeartbeats 1600000 in
theorem rback_any (a : Option Addr) (ds : List Int) (c : Nat) (v : Int) (w : World) (ha : BigAt w a ds) (hd : Dig ds) (h8 : 8 ≤ ds.length) (hm : ds.length ≤ 100) (hcap : Cap ds.length c) (hv : valD ds = v) (hw : Wide v) :
    Calls Tryd.prog 80 #[.slice a ds.length c] w fun e w' => e = .returned (.tuple #[.agg #[.int .u64 (hiW v), .int .u64 (loW v)], .bool true]) ∧ Gr w w' := by
  subst hv
  obtain ⟨hc, hc'⟩ := hcap
  obtain ⟨p1, p2, p3⟩ := parts8 hd h8 hw.2
  obtain ⟨x, hx⟩ := get_some ds 0 (by omega)
  obtain ⟨b, off, rfl, _, _⟩ := ha.get hx
  clear hx
  unfold maxLen at hc'
  have f1 := fun w hw => bfits4 (some ⟨b, off, none⟩) (ds.take 4) c w hw (hd.take 4) (by rw [List.length_take]; omega)
  have f2 := fun w hw => bfits4 (some ⟨b, off + 4, none⟩) ((ds.drop 4).take 4) (c - 4) w hw ((hd.drop 4).take 4) (by rw [List.length_take, List.length_drop]; omega)
  rw [p1] at f1
  rw [p2] at f2
  replace f1 := Lib.hid f1
  replace f2 := Lib.hid f2
  replace p3 := Lib.hid p3
  clear p1 p2 hw
  go_enter Tryd.func80, Tryd.ntmps80
  go_wp2_with fail
  go_loopw [4] (fun iv wr => ∃ i : Nat, 8 ≤ i ∧ i ≤ ds.length ∧ iv = .int .i64 i ∧ wr = w.alloc (.cells #[.int .u64 0, .int .u64 0] 32)) (fun iv _ => ds.length - (intOf iv).toNat)
  case atStart => exact ⟨8, Nat.le_refl _, h8, rfl, rfl⟩
  case round =>
    obtain ⟨i, hi8, hil, rfl, rfl⟩ := hrel
    by_cases hlt : i < ds.length
    · obtain ⟨d, hdi⟩ := get_some ds i hlt
      obtain rfl := p3.out i d hi8 hdi
      obtain ⟨b', o', he, hb, c0⟩ := ha.get hdi
      cases he
      go_wp2_with fail
      go_roundw
      case rel => exact ⟨i + 1, by omega, by omega, by go_num, trivial⟩
      case measure => simp [intOf]; omega
    · go_wp2_with fail
      refine wp_loop_rounds 1 ?_
      rw [rounds_succ]
      go_wp2_with fail
      refine (f1.out _ ((ha.gr ((Gr.refl w).alloc _)).take 4)).mono ?_
      rintro e wa ⟨rfl, rfl⟩
      go_wp2_with fail
      refine (f2.out _ (((ha.gr ((Gr.refl w).alloc _)).drop 4).take 4)).mono ?_
      rintro e wb ⟨rfl, rfl⟩
      go_wp2_with fail
      refine bodyPost_ret (v := .tuple #[.agg #[.int .u64 (hiW (valD ds)), .int .u64 (loW (valD ds))], .bool true]) (by simp (maxDischargeDepth := 8) [results, Tryd.results80, go_sem, *]) rfl ⟨rfl, ?_⟩
      repeat (first | exact Gr.refl _ | apply Gr.alloc | apply Gr.drew | apply Gr.drewN | (refine Gr.setCell ?_ (by simp) _) | (refine Gr.trans ?_ (by assumption)))
end Go.Proofs.YtmookdgeblcjnaaDoor
