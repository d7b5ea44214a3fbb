/- order.Last. Printed by gen_y4.py. -/
import Derived.Test.YtglfdnfojpdkjaaGreatDoorY3
import Derived.Test.YtglfdnfojpdkjaaGreatDoorJ41
import Derived.Test.YtglfdnfojpdkjaaGreatDoorJ26
import Derived.WideMake
namespace Go.Proofs.YtglfdnfojpdkjaaGreatDoor
open Go.RowKit
open Go.Maps (Keyed)

/-- An entry's numbers are i64's. -/
def EntB (e : Ent) : Prop := (-9223372036854775808 ≤ e.cl ∧ e.cl ≤ 9223372036854775807) ∧ (-9223372036854775808 ≤ e.nu ∧ e.nu ≤ 9223372036854775807) ∧ (-9223372036854775808 ≤ e.kd ∧ e.kd ≤ 9223372036854775807)
section
variable {H : Type} {P : Program} {k : TypeId} {R : Value → Option (DataW H × List MemPlace)} {w w' : World} {b n : Nat} {D : DataW H}
theorem owns_mgr (h : w.ownsMap P k R b n D) (g : Gr w w') : w'.ownsMap P k R b n D := by
  have hl := h.lt
  obtain ⟨es, clock, hb, q⟩ := h
  exact ⟨es, clock, by rw [g.block b hl]; exact hb, q⟩
end
abbrev LastW (w : World) (mb n : Nat) (D : DataW Unit) : Prop := w.ownsMap Tryz.prog 3 (plainElem Tryz.prog 3) mb n D
theorem lit_inj {a b : Int} (h : (DataW.lit (.int .i64 a) : DataW Unit) = .lit (.int .i64 b)) : a = b := by
  cases h
  rfl
theorem look_int {w : World} {mb n : Nat} {D : DataW Unit} {l : List Ent} (h : LastW w mb n D) (hD : MaxD D l) {x : Int} (hw : -9223372036854775808 ≤ x ∧ x ≤ 9223372036854775807) : ∃ v : Int, (Instr.lookup 71 (.map (some mb)) (.int .i64 x) true).run Tryz.prog w = .ok (.tuple #[.int .i64 v, .bool (maxNu l x).isSome]) w ∧ ∀ m, maxNu l x = some m → v = m := by
  obtain ⟨v, ps, hrun, hv⟩ := h.look_ok Tryz.keyedInt Tryz.underlying71 (z := .int .i64 0) (by kernel_rfl) (plainElem_int Tryz.underlying3 (by decide)) (key_int hw)
  obtain ⟨c, rfl, hc, _⟩ := plainElem_int_inv Tryz.underlying3 hv
  simp only [Prod.mk.injEq] at hc
  have h1 := hD x
  refine ⟨c, ?_, fun m hm => ?_⟩
  · cases hx : maxNu l x with
    | none => rw [hx] at h1; rw [hrun, show Maps.has D (.int .i64 x) = false from h1]; rfl
    | some m => rw [hx] at h1; rw [hrun, h1.1]; rfl
  · rw [hm] at h1
    have h2 := h1.2 (.lit (.int .i64 0))
    exact lit_inj (hc.1.symm.trans h2)
theorem store_int {w : World} {mb n : Nat} {D : DataW Unit} (h : LastW w mb n D) (hn : n < maxLen) {x y : Int} (hw : -9223372036854775808 ≤ x ∧ x ≤ 9223372036854775807) (hy : -9223372036854775808 ≤ y ∧ y ≤ 9223372036854775807) : ∃ w', (Instr.mapUpdate 71 (.map (some mb)) (.int .i64 x) (.int .i64 y)).run Tryz.prog w = .ok () w' ∧ LastW w' mb (n + 1) (D.put (.int .i64 x) (.lit (.int .i64 y))) ∧ GrX [mb] w w' := by
  obtain ⟨w', h1, h2, h3⟩ := h.update Tryz.keyedInt Tryz.underlying71 hn (key_int hw) (plainElem_int Tryz.underlying3 (int_wf hy))
  exact ⟨w', h1, h2, ⟨h3.os, h3.tape, h3.output, h3.size, fun k hk hm => h3.block k hk (fun e => hm (by injection e with e; rw [e]; simp))⟩⟩
theorem is_key (x : Int) : WideAt.IsKeyLit (.int .i64 x) := trivial
/-- What order.Last answers: a map of each client's greatest number. -/
def LastP (l : List Ent) (w : World) (e : Ending) (w' : World) : Prop := ∃ (D : DataW Unit) (mb n : Nat), e = .returned (.map (some mb)) ∧ LastW w' mb n D ∧ MaxD D l ∧ Gr w w'
set_option maxRecDepth 100000 in
set_option maxHeartbeats 6400000 in
theorem last_any (a : Option Addr) (c : Nat) (L : List EntM) (w : World) (h : LedM Any w a L) (hi : ∀ x ∈ L, EntB x.e) (hm : L.length ≤ 1000000) :
    Calls Tryz.prog 24 #[.slice a L.length c] w (LastP (L.map (·.e)) w) := by
  have hmm := @run_makeMap_plain
  obtain ⟨W, hW⟩ : ∃ W, W = w.alloc (.map #[] 0) := ⟨_, rfl⟩
  have gW : Gr w W := by rw [hW]; exact (Gr.refl w).alloc _
  have hM : LastW W w.heap.size 0 (.map []) := by rw [hW]; exact World.ownsMap_made _ _ _ _
  replace hW := Lib.hid hW
  replace hM := Lib.hid hM
  replace h := Lib.hid h
  replace hi := Lib.hid hi
  go_enter Tryz.func24, Tryz.ntmps24
  go_upto_region 2 with fail
  clear hmm
  rw [← hW.out]
  go_wp2_with fail
  go_loopw [11] (fun iv wr => ∃ (k : Nat) (D : DataW Unit), k ≤ L.length ∧ iv = .int .i64 k ∧ Hid (LastW wr w.heap.size k D ∧ MaxD D ((L.take k).map (·.e))) ∧ Gr w wr) (fun iv _ => L.length - (intOf iv).toNat)
  case atStart => exact ⟨0, .map [], Nat.zero_le _, rfl, Lib.hid ⟨hM.out, MaxD.nil⟩, gW⟩
  case round =>
    obtain ⟨k, D, hk, rfl, hI, hg⟩ := hrel
    obtain ⟨hMk, hDk⟩ := hI.out
    clear hI
    obtain ⟨wo, rfl⟩ : ∃ wo : World, wo = wr := ⟨wr, rfl⟩
    by_cases hlt : k < L.length
    · obtain ⟨x, hx⟩ := get_some L k hlt
      obtain ⟨b, off, hag, hb, _, d0, d1, d2, d3, d4, d5, d6, d7, d8, d9⟩ := (h.out.gr hg).get hx
      subst hag
      obtain ⟨x1, x2, x3⟩ := hi.out x (get_mem hx)
      have tk : (L.take (k + 1)).map (·.e) = (L.take k).map (·.e) ++ [x.e] := by rw [take_snoc hx, List.map_append]; rfl
      obtain ⟨eb, heb⟩ : ∃ eb, eb = wo.heap.size := ⟨_, rfl⟩
      obtain ⟨wa, hwa⟩ : ∃ wa, wa = wo.alloc (.cells #[.int .i64 x.e.cl, .int .i64 x.e.nu, .int .i64 x.e.kd, .int .i64 x.e.id, .int .i64 x.e.srv.k, .int .i64 x.e.srv.q, .int .i64 x.e.srv.t, .int .i64 x.e.po, .slice x.a x.e.tasks.length x.c, .int .i64 x.e.at_] 60) := ⟨_, rfl⟩
      have ga : Gr wo wa := by rw [hwa]; exact (Gr.refl _).alloc _
      have hXa : Blk wa eb #[.int .i64 x.e.cl, .int .i64 x.e.nu, .int .i64 x.e.kd, .int .i64 x.e.id, .int .i64 x.e.srv.k, .int .i64 x.e.srv.q, .int .i64 x.e.srv.t, .int .i64 x.e.po, .slice x.a x.e.tasks.length x.c, .int .i64 x.e.at_] 60 := by rw [hwa, heb]; exact Blk.new _ _ _
      have hMa := owns_mgr hMk ga
      have hiM := hMa.isMap
      obtain ⟨v, hlk, hvm⟩ := look_int hMa hDk x1
      have y0 := hXa.cell (i := 0) (v := .int .i64 x.e.cl) rfl
      have y1 := hXa.cell (i := 1) (v := .int .i64 x.e.nu) rfl
      have y2 := hXa.cell (i := 2) (v := .int .i64 x.e.kd) rfl
      have y3 := hXa.cell (i := 3) (v := .int .i64 x.e.id) rfl
      have y4 := hXa.cell (i := 4) (v := .int .i64 x.e.srv.k) rfl
      have y5 := hXa.cell (i := 5) (v := .int .i64 x.e.srv.q) rfl
      have y6 := hXa.cell (i := 6) (v := .int .i64 x.e.srv.t) rfl
      have y7 := hXa.cell (i := 7) (v := .int .i64 x.e.po) rfl
      have y8 := hXa.cell (i := 8) (v := .slice x.a x.e.tasks.length x.c) rfl
      have y9 := hXa.cell (i := 9) (v := .int .i64 x.e.at_) rfl
      replace hx := Lib.hid hx
      replace heb := Lib.hid heb
      replace hwa := Lib.hid hwa
      replace hXa := Lib.hid hXa
      replace hMk := Lib.hid hMk
      replace hMa := Lib.hid hMa
      replace tk := Lib.hid tk
      replace hiM := Lib.hid hiM
      go_upto_region 5 with fail
      rw [← heb.out, ← hwa.out]
      clear d0 d1 d2 d3 d4 d5 d6 d7 d8 d9
      cases hmx : maxNu ((L.take k).map (·.e)) x.e.cl with
      | none =>
        rw [hmx] at hlk
        dsimp only [Option.isSome] at hlk
        clear hvm
        replace hmx := Lib.hid hmx
        obtain ⟨w5, hrun, hM5, gx5⟩ := store_int hMa.out (by unfold maxLen; omega) x1 x2
        have hD5 : MaxD (D.put (.int .i64 x.e.cl) (.lit (.int .i64 x.e.nu))) ((L.take (k + 1)).map (·.e)) := by rw [tk.out]; exact hDk.put hiM.out (is_key _) (fun m hm => by rw [hmx.out] at hm; cases hm)
        have g5 : Gr w w5 := gx5.all (hg.trans ga) (fun y hy => by rw [List.mem_singleton.1 hy]; exact Nat.le_refl _)
        replace hDk := Lib.hid hDk
        replace hM5 := Lib.hid hM5
        replace hD5 := Lib.hid hD5
        replace gx5 := Lib.hid gx5
        go_wp2_with fail
        go_roundw
        case rel => exact ⟨k + 1, _, by omega, by go_num, Lib.hid ⟨hM5.out, hD5.out⟩, g5⟩
        case measure => simp [intOf]; omega
      | some m =>
        rw [hmx] at hlk
        dsimp only [Option.isSome] at hlk
        have hvx := hvm m hmx
        clear hvm
        by_cases hlt2 : m < x.e.nu
        · have tv : v < x.e.nu := by rw [hvx]; exact hlt2
          have tvb : decide (v < x.e.nu) = true := decide_eq_true tv
          replace hvx := Lib.hid hvx
          replace hmx := Lib.hid hmx
          obtain ⟨w5, hrun, hM5, gx5⟩ := store_int hMa.out (by unfold maxLen; omega) x1 x2
          have hD5 : MaxD (D.put (.int .i64 x.e.cl) (.lit (.int .i64 x.e.nu))) ((L.take (k + 1)).map (·.e)) := by rw [tk.out]; exact hDk.put hiM.out (is_key _) (fun m hm => by rw [hmx.out] at hm; cases hm; exact hlt2)
          have g5 : Gr w w5 := gx5.all (hg.trans ga) (fun y hy => by rw [List.mem_singleton.1 hy]; exact Nat.le_refl _)
          replace hDk := Lib.hid hDk
          replace hM5 := Lib.hid hM5
          replace hD5 := Lib.hid hD5
          replace gx5 := Lib.hid gx5
          go_wp2_with fail
          go_roundw
          case rel => exact ⟨k + 1, _, by omega, by go_num, Lib.hid ⟨hM5.out, hD5.out⟩, g5⟩
          case measure => simp [intOf]; omega
        · have tv : ¬ v < x.e.nu := by rw [hvx]; exact hlt2
          have tvb : decide (v < x.e.nu) = false := decide_eq_false tv
          have hD5 : MaxD D ((L.take (k + 1)).map (·.e)) := by rw [tk.out]; exact hDk.same hmx hlt2
          replace hDk := Lib.hid hDk
          replace hD5 := Lib.hid hD5
          replace hvx := Lib.hid hvx
          replace hmx := Lib.hid hmx
          go_wp2_with fail
          go_roundw
          case rel => exact ⟨k + 1, D, by omega, by go_num, Lib.hid ⟨hMa.out.mono (by omega), hD5.out⟩, hg.trans ga⟩
          case measure => simp [intOf]; omega
    · have hkl : k = L.length := by omega
      have ti : ¬ (k : Int) < L.length := by omega
      have tib : decide ((k : Int) < L.length) = false := decide_eq_false ti
      have hall : L.take k = L := List.take_of_length_le (by omega)
      rw [hall] at hDk
      replace hMk := Lib.hid hMk
      replace hDk := Lib.hid hDk
      replace hall := Lib.hid hall
      replace hkl := Lib.hid hkl
      go_wp2_with fail
      go_ret
      exact ⟨D, _, k, rfl, hMk.out, hDk.out, hg⟩
end Go.Proofs.YtglfdnfojpdkjaaGreatDoor
