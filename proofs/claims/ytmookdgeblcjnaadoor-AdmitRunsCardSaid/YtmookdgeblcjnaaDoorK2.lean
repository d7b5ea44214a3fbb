/- AdmitRuns: run. -/
import Derived.Test.YtmookdgeblcjnaaDoorK1
import Derived.Test.YtmookdgeblcjnaaDoorE2
import Derived.Test.YtmookdgeblcjnaaDoorH8
import Derived.Deep.OwnRows
import Derived.Deep.DeepCutAuto
namespace Go.Proofs.YtmookdgeblcjnaaDoor
open Go.RowKit

theorem Blk.set {w : World} {b : Nat} {cs : Array Value} {t : TypeId} (h : Blk w b cs t) (i : Nat) (v : Value) : Blk (w.setCell ⟨b, i, none⟩ v) b (cs.setIfInBounds i v) t := heap_setCell_same w b i cs t v h
theorem Blk.other {w : World} {b : Nat} {cs : Array Value} {t : TypeId} (h : Blk w b cs t) {a : Addr} (ha : b ≠ a.block) (v : Value) : Blk (w.setCell a v) b cs t := by unfold Blk; rw [heap_setCell_other w a b v ha]; exact h

def rowI64 (f : St → Int) (L : List St) : Array Value := (L.map fun x => Value.int .i64 (f x)).toArray
theorem row_get {f : St → Int} {L : List St} {i : Nat} {x : St} (h : L[i]? = some x) : (rowI64 f L)[i]? = some (.int .i64 (f x)) := by simp [rowI64, h]
theorem row_set {f : St → Int} {L : List St} {i : Nat} (y : St) : (rowI64 f L).setIfInBounds i (.int .i64 (f y)) = rowI64 f (L.set i y) := by simp [rowI64, List.map_set]
theorem row_same {f : St → Int} {L : List St} {i : Nat} {x : St} (h : L[i]? = some x) (y : St) (hf : f y = f x) : rowI64 f (L.set i y) = rowI64 f L := by
  unfold rowI64
  congr 1
  apply List.ext_getElem?
  intro j
  rw [List.getElem?_map, List.getElem?_map]
  by_cases hj : i = j
  · subst hj
    rw [List.getElem?_set_self (get_lt h), h]
    simp [hf]
  · rw [List.getElem?_set_ne hj]
theorem set_self {L : List St} {i : Nat} {x : St} (h : L[i]? = some x) : L.set i x = L := by
  apply List.ext_getElem?
  intro j
  by_cases hj : i = j
  · subst hj
    rw [List.getElem?_set_self (get_lt h), h]
  · rw [List.getElem?_set_ne hj]
/-- The three slices of a run. -/
structure RunW (w : World) (b : Nat) (L : List St) : Prop where
  l : Blk w b (rowI64 St.left L) 3
  d : Blk w (b + 1) (rowI64 St.dead L) 3
  n : Blk w (b + 1 + 1) (rowI64 St.next L) 3
theorem RunW.alloc {w : World} {b : Nat} {L : List St} (h : RunW w b L) (o : Obj) : RunW (w.alloc o) b L := ⟨h.l.alloc o, h.d.alloc o, h.n.alloc o⟩
theorem RunW.grow {w w' : World} {b : Nat} {L : List St} (h : RunW w b L) (g : Gr w w') : RunW w' b L := ⟨h.l.gr g, h.d.gr g, h.n.gr g⟩
theorem RunW.drew {w : World} {b : Nat} {L : List St} (h : RunW w b L) : RunW w.drew b L := ⟨h.l.drew, h.d.drew, h.n.drew⟩
/-- The job that is to run, of the first i. -/
def Best (L : List St) (i : Nat) (b : Int) : Prop := (b = -1 ∧ ∀ j x, j < i → L[j]? = some x → x.left = 0) ∨ ∃ k x, b = ((k : Nat) : Int) ∧ k < i ∧ L[k]? = some x ∧ 0 < x.left ∧ ∀ j y, j < i → L[j]? = some y → 0 < y.left → x.dead ≤ y.dead

theorem Best.set {L : List St} {i : Nat} {b : Int} (h : Best L i b) (y : St) : Best (L.set i y) i b := by
  have e : ∀ j, j < i → (L.set i y)[j]? = L[j]? := fun j hj => List.getElem?_set_ne (by omega)
  rcases h with ⟨h1, h2⟩ | ⟨k, x, h1, h2, h3, h4, h5⟩
  · exact .inl ⟨h1, fun j x hj hx => h2 j x hj (by rw [← e j hj]; exact hx)⟩
  · exact .inr ⟨k, x, h1, h2, by rw [e k h2]; exact h3, h4, fun j z hj hz => h5 j z hj (by rw [← e j hj]; exact hz)⟩
theorem Best.skip {L : List St} {i : Nat} {b : Int} {x : St} (h : Best L i b) (hx : L[i]? = some x) (hl : x.left = 0) : Best L (i + 1) b := by
  have e : ∀ j z, j < i + 1 → L[j]? = some z → j < i ∨ z = x := fun j z hj hz => by
    by_cases hji : j < i
    · exact .inl hji
    · obtain rfl : j = i := by omega
      rw [hx] at hz
      exact .inr (Option.some.inj hz).symm
  rcases h with ⟨h1, h2⟩ | ⟨k, y, h1, h2, h3, h4, h5⟩
  · exact .inl ⟨h1, fun j z hj hz => (e j z hj hz).elim (fun hj2 => h2 j z hj2 hz) (fun hz2 => hz2 ▸ hl)⟩
  · exact .inr ⟨k, y, h1, by omega, h3, h4, fun j z hj hz hzl => (e j z hj hz).elim (fun hj2 => h5 j z hj2 hz hzl) (fun hz2 => by subst hz2; omega)⟩
theorem Best.first {L : List St} {i : Nat} {x : St} (h : ∀ j x, j < i → L[j]? = some x → x.left = 0) (hx : L[i]? = some x) (hl : 0 < x.left) : Best L (i + 1) i := by
  refine .inr ⟨i, x, rfl, by omega, hx, hl, fun j z hj hz hzl => ?_⟩
  by_cases hji : j < i
  · have := h j z hji hz
    omega
  · obtain rfl : j = i := by omega
    rw [hx] at hz
    rw [Option.some.inj hz]
    exact Int.le_refl _
theorem Best.less {L : List St} {i : Nat} {x y : St} (h5 : ∀ j z, j < i → L[j]? = some z → 0 < z.left → y.dead ≤ z.dead) (hx : L[i]? = some x) (hl : 0 < x.left) (hd : x.dead < y.dead) : Best L (i + 1) i := by
  refine .inr ⟨i, x, rfl, by omega, hx, hl, fun j z hj hz hzl => ?_⟩
  by_cases hji : j < i
  · have := h5 j z hji hz hzl
    omega
  · obtain rfl : j = i := by omega
    rw [hx] at hz
    rw [Option.some.inj hz]
    exact Int.le_refl _
theorem Best.stay {L : List St} {i k : Nat} {x y : St} (h2 : k < i) (h3 : L[k]? = some y) (h4 : 0 < y.left) (h5 : ∀ j z, j < i → L[j]? = some z → 0 < z.left → y.dead ≤ z.dead) (hx : L[i]? = some x) (hd : y.dead ≤ x.dead) : Best L (i + 1) k := by
  refine .inr ⟨k, y, rfl, by omega, h3, h4, fun j z hj hz hzl => ?_⟩
  by_cases hji : j < i
  · exact h5 j z hji hz hzl
  · obtain rfl : j = i := by omega
    rw [hx] at hz
    rw [← Option.some.inj hz]
    exact hd
/-- A job comes, in memory. -/
theorem RunW.comes {w : World} {b : Nat} {L : List St} (h : RunW w b L) (i : Nat) (y : St) : RunW (((w.setCell ⟨b, i, none⟩ (.int .i64 y.left)).setCell ⟨b + 1, i, none⟩ (.int .i64 y.dead)).setCell ⟨b + 1 + 1, i, none⟩ (.int .i64 y.next)) b (L.set i y) := by
  refine ⟨?_, ?_, ?_⟩
  · rw [← row_set]
    exact ((h.l.set i _).other (by simp) _).other (by simp; omega) _
  · rw [← row_set]
    exact ((h.d.other (by simp) _).set i _).other (by simp) _
  · rw [← row_set]
    exact ((h.n.other (by simp; omega) _).other (by simp) _).set i _
theorem RunW.runs {w : World} {b : Nat} {L : List St} {i : Nat} {x : St} (h : RunW w b L) (hx : L[i]? = some x) : RunW (w.setCell ⟨b, i, none⟩ (.int .i64 (x.left - 1))) b (L.set i ⟨x.s, x.left - 1, x.dead, x.next⟩) := by
  refine ⟨?_, ?_, ?_⟩
  · rw [← row_set]
    exact h.l.set i _
  · rw [row_same (f := St.dead) hx ⟨x.s, x.left - 1, x.dead, x.next⟩ rfl]
    exact h.d.other (by simp) _
  · rw [row_same (f := St.next) hx ⟨x.s, x.left - 1, x.dead, x.next⟩ rfl]
    exact h.n.other (by simp; omega) _
theorem RunW.renext {w : World} {b : Nat} {L : List St} {i : Nat} {x : St} (h : RunW w b L) (hx : L[i]? = some x) (n : Int) : RunW (w.setCell ⟨b + 1 + 1, i, none⟩ (.int .i64 n)) b (L.set i ⟨x.s, x.left, x.dead, n⟩) := by
  refine ⟨?_, ?_, ?_⟩
  · rw [row_same (f := St.left) hx ⟨x.s, x.left, x.dead, n⟩ rfl]
    exact h.l.other (by simp; omega) _
  · rw [row_same (f := St.dead) hx ⟨x.s, x.left, x.dead, n⟩ rfl]
    exact h.d.other (by simp) _
  · rw [← row_set]
    exact h.n.set i _
theorem srvs_at {w : World} {bl ol : Nat} {l : List Srv} (h : SrvsAt w (some ⟨bl, ol, none⟩) l) {i : Nat} {s : Srv} (hs : l[i]? = some s) : bl < w.heap.size ∧ w.cell? ⟨bl, ol + i * 3, none⟩ = some (.int .i64 s.k) ∧ w.cell? ⟨bl, ol + i * 3 + 1, none⟩ = some (.int .i64 s.q) ∧ w.cell? ⟨bl, ol + i * 3 + 2, none⟩ = some (.int .i64 s.t) := by
  obtain ⟨b', o', he, h1, h2, h3, h4⟩ := h i s hs
  cases he
  exact ⟨h1, h2, h3, h4⟩
theorem ints_at {w : World} {bl ol : Nat} {l : List Int} (h : IntsAt w (some ⟨bl, ol, none⟩) l) {i : Nat} {s : Int} (hs : l[i]? = some s) : bl < w.heap.size ∧ w.cell? ⟨bl, ol + i, none⟩ = some (.int .i64 s) := by
  obtain ⟨b', o', he, h1, h2⟩ := h.get hs
  cases he
  exact ⟨h1, h2⟩

set_option maxRecDepth 100000 in
set_option maxHeartbeats 3200000 in
theorem run_any (bl ol : Nat) (l : List Srv) (c : Nat) (ba oa : Nat) (wt : List Int) (ca : Nat) (d : Int) (w : World) (hl : SrvsAt w (some ⟨bl, ol, none⟩) l) (ha : IntsAt w (some ⟨ba, oa, none⟩) wt) (hw : ∀ x ∈ wt, 0 ≤ x ∧ x ≤ 39) (hwl : wt.length ≤ 50) (h8 : l.length ≤ 8) (hs : Run d 0 d (l.map fun s => ⟨s, 0, 0, 0⟩)) (d2 : d ≤ 4096) :
    Calls Tryd.prog 14 #[.slice (some ⟨bl, ol, none⟩) l.length c, .slice (some ⟨ba, oa, none⟩) wt.length ca, .int .i64 1500] w fun e w' => ∃ m : Int, e = .returned (.tuple #[.bool false, .int .i64 m]) ∧ m ≤ d ∧ Gr w w' := by
  have hmk := run_make_row' (P := Tryd.prog) 40 3 (.int .i64 0) 8 Tryd.underlying40 Tryd.infoInt rfl .i64 .i64 l.length (by omega) (by omega)
  have d1 := hs.d1
  replace hl := Lib.hid hl
  replace ha := Lib.hid ha
  replace hs := Lib.hid hs
  replace hw := Lib.hid hw
  go_enter Tryd.func14, Tryd.ntmps14
  go_wp2_with fail
  go_loopw [14, 11, 12, 13] (fun tv uv bv mv wr => ∃ (t u : Nat) (B M : Int) (L : List St), t ≤ 1500 ∧ tv = .int .i64 t ∧ uv = .int .i64 u ∧ u ≤ t * 8 ∧ bv = .int .i64 B ∧ mv = .int .i64 M ∧ 0 ≤ B ∧ B ≤ d ∧ 0 ≤ M ∧ M ≤ d ∧ Run d t (t + (d - B)) L ∧ L.map St.s = l ∧ RunW wr w.heap.size L ∧ Gr w wr) (fun tv _ _ _ _ => 1500 - (intOf tv).toNat)
  case atStart =>
    refine ⟨0, 0, 0, 0, l.map fun s => ⟨s, 0, 0, 0⟩, by omega, rfl, rfl, by omega, rfl, rfl, by omega, by omega, by omega, by omega, by rw [show ((0 : Nat) : Int) + (d - 0) = d by omega]; exact hs.out, by rw [List.map_map]; exact List.map_id' l, ?_, ((Gr.refl w).alloc _).alloc _ |>.alloc _⟩
    have hm : ∀ f : St → Int, (∀ s, f ⟨s, 0, 0, 0⟩ = 0) → madeCells #[Value.int .i64 0] l.length = rowI64 f (l.map fun s => ⟨s, 0, 0, 0⟩) := fun f hf => by
      unfold rowI64
      apply Array.ext
      · simp [madeCells]
      · intro i h1 h2
        have h3 : i < l.length := by simpa [madeCells] using h1
        simp [madeCells, Nat.mod_one, hf]
    refine ⟨?_, ?_, ?_⟩
    · rw [← hm St.left (fun _ => rfl)]
      exact ((Blk.new w _ _).alloc _).alloc _
    · rw [← hm St.dead (fun _ => rfl)]
      have := (Blk.new (w.alloc (.cells (madeCells #[Value.int .i64 0] l.length) 3)) (madeCells #[Value.int .i64 0] l.length) 3).alloc (.cells (madeCells #[Value.int .i64 0] l.length) 3)
      simpa using this
    · rw [← hm St.next (fun _ => rfl)]
      have := Blk.new ((w.alloc (.cells (madeCells #[Value.int .i64 0] l.length) 3)).alloc (.cells (madeCells #[Value.int .i64 0] l.length) 3)) (madeCells #[Value.int .i64 0] l.length) 3
      simpa using this
  case round =>
    obtain ⟨wo, rfl⟩ : ∃ wo, wo = wr := ⟨wr, rfl⟩
    obtain ⟨t, u, B, M, L, ht, rfl, rfl, hu, rfl, rfl, hB0, hB1, hM0, hM1, hR, hLs, hW, hg⟩ := hrel
    have hLn : L.length = l.length := by rw [← hLs, List.length_map]
    replace hR := Lib.hid hR
    replace hLs := Lib.hid hLs
    replace hW := Lib.hid hW
    replace hLn := Lib.hid hLn
    by_cases hlt : t < 1500
    · have hlt2 : (t : Int) < 1500 := by omega
      go_wp2_with fail
      go_loop [36, 16] (fun iv dv => ∃ k : Nat, k ≤ l.length ∧ iv = .int .i64 k ∧ dv = .bool ((L.take k).all (fun x => decide (x.left = 0)))) (fun iv _ => l.length - (intOf iv).toNat)
      case atStart => exact ⟨0, Nat.zero_le _, rfl, rfl⟩
      case round =>
        obtain ⟨k, hk, rfl, rfl⟩ := hrel
        by_cases hkl : k < l.length
        · obtain ⟨x, hx⟩ := get_some L k (by have := hLn.out; omega)
          have c0 := hW.out.l.cell (row_get (f := St.left) hx)
          have hsn : (L.take (k + 1)).all (fun x => decide (x.left = 0)) = ((L.take k).all (fun x => decide (x.left = 0)) && decide (x.left = 0)) := by rw [take_snoc hx, List.all_append]; simp
          generalize (L.take k).all (fun x => decide (x.left = 0)) = v at *
          replace hsn := Lib.hid hsn
          replace hx := Lib.hid hx
          cases v with
          | true =>
            by_cases h0 : x.left = 0
            · have e0 : (x.left == 0) = true := by simpa using h0
              go_wp2_with fail
              go_round
              case rel => exact ⟨k + 1, by omega, by go_num, by rw [hsn.out]; simp [h0]⟩
              case measure => simp [intOf]; omega
            · have e0 : (x.left == 0) = false := by simpa using h0
              go_wp2_with fail
              go_round
              case rel => exact ⟨k + 1, by omega, by go_num, by rw [hsn.out]; simp [h0]⟩
              case measure => simp [intOf]; omega
          | false =>
            go_wp2_with fail
            go_round
            case rel => exact ⟨k + 1, by omega, by go_num, by rw [hsn.out]; rfl⟩
            case measure => simp [intOf]; omega
        · have hall : L.take k = L := List.take_of_length_le (by have := hLn.out; omega)
          rw [hall]
          obtain ⟨v, hv⟩ : ∃ v, v = L.all (fun x => decide (x.left = 0)) := ⟨_, rfl⟩
          rw [← hv]
          go_upto_if 48 with fail
          go_cut [12] (fun s12 wx => ∃ B2 : Int, s12 = .int .i64 B2 ∧ 0 ≤ B2 ∧ B2 < d ∧ Run d t (t + (d - B2)) L ∧ (B2 = 0 ∨ ∃ x ∈ L, 0 < x.left) ∧ wx = wo)
          case first =>
            cases v with
            | true =>
              have hz : ∀ x ∈ L, x.left = 0 := fun x hx => of_decide_eq_true (List.all_eq_true.1 hv.symm x hx)
              have hR2 := hR.out.fresh hz
              rw [show (t : Int) + d = t + (d - 0) by omega] at hR2
              replace hR2 := Lib.hid hR2
              clear hv hz
              go_wp2_with fail
              go_meet
              case rel => exact ⟨0, rfl, by omega, by omega, hR2.out, .inl rfl, rfl⟩
            | false =>
              have hex : ∃ x ∈ L, 0 < x.left := by
                by_cases h : ∃ x ∈ L, 0 < x.left
                · exact h
                · have : L.all (fun x => decide (x.left = 0)) = true := List.all_eq_true.2 fun x hx => decide_eq_true (by
                    have := (hR.out.ok x hx).l0
                    have : ¬ 0 < x.left := fun e => h ⟨x, hx, e⟩
                    omega)
                  rw [this] at hv
                  cases hv
              have hBd : B < d := by
                obtain ⟨x, hx, hl⟩ := hex
                have := hR.out.begun hx hl
                omega
              replace hex := Lib.hid hex
              clear hv
              go_wp2_with fail
              go_meet
              case rel => exact ⟨B, rfl, hB0, hBd, hR.out, .inr hex.out, rfl⟩
          case rest =>
            obtain ⟨B2, rfl, hB20, hBd, hR2, hOr, rfl⟩ := hcut
            replace hR2 := Lib.hid hR2
            replace hOr := Lib.hid hOr
            clear hv hR
            go_wp2_with fail
            go_loopw [51, 15, 11] (fun iv bv uv wr => ∃ (i u2 : Nat) (b : Int) (L2 : List St), i ≤ l.length ∧ iv = .int .i64 i ∧ bv = .int .i64 b ∧ uv = .int .i64 u2 ∧ u2 ≤ t * 8 + i ∧ Best L2 i b ∧ Run d t (t + (d - B2)) L2 ∧ L2.map St.s = l ∧ (B2 = 0 ∨ ∃ x ∈ L2, 0 < x.left) ∧ RunW wr w.heap.size L2 ∧ Gr w wr) (fun iv _ _ _ => l.length - (intOf iv).toNat)
            case atStart => exact ⟨0, u, -1, L, Nat.zero_le _, rfl, rfl, rfl, by omega, .inl ⟨rfl, fun j x h => by omega⟩, hR2.out, hLs.out, hOr.out, hW.out, hg⟩
            case round =>
              obtain ⟨i, u2, b, L2, hi, rfl, rfl, rfl, hu2, hBe, hR3, hLs2, hOr2, hW2, hg2⟩ := hrel
              have hLn2 : L2.length = l.length := by rw [← hLs2, List.length_map]
              by_cases hil : i < l.length
              · obtain ⟨x, hx⟩ := get_some L2 i (by omega)
                have hxl : l[i]? = some x.s := by rw [← hLs2, List.getElem?_map, hx]; rfl
                obtain ⟨hbl, e0, e1, e2⟩ := srvs_at (hl.out.gr hg2) hxl
                have c0 := hW2.l.cell (row_get (f := St.left) hx)
                have c1 := hW2.d.cell (row_get (f := St.dead) hx)
                have c2 := hW2.n.cell (row_get (f := St.next) hx)
                have f0 := hW2.l.free i
                have f1 := hW2.d.free i
                have f2 := hW2.n.free i
                have z0 := hW2.l.lt
                have z1 := hW2.d.lt
                have z2 := hW2.n.lt
                have hm : x ∈ L2 := List.mem_of_getElem? hx
                obtain ⟨o1, o2, o3, o4, o5, o6, o7, o8, o9, o10, o11⟩ := hR3.ok x hm
                have hlate := fun h => hR3.late hm h
                have hbeg : (t : Int) < t + (d - B2) := by omega
                replace hxl := Lib.hid hxl
                replace hLn2 := Lib.hid hLn2
                replace hLs2 := Lib.hid hLs2
                replace hR3 := Lib.hid hR3
                replace hOr2 := Lib.hid hOr2
                replace hW2 := Lib.hid hW2
                replace hm := Lib.hid hm
                replace o11 := Lib.hid o11
                replace hx := Lib.hid hx
                replace hBe := Lib.hid hBe
                replace hlate := Lib.hid hlate
                obtain ⟨cb, hcb⟩ : ∃ cb : Bool, cb = (decide (x.next ≤ t) && decide (x.left = 0)) := ⟨_, rfl⟩
                replace hcb := Lib.hid hcb
                go_upto_region 21 with fail
                go_cut [68] (fun s68 wx => s68 = .bool false ∧ wx = wr.alloc (.cells #[.int .i64 x.s.k, .int .i64 x.s.q, .int .i64 x.s.t] 23))
                case first =>
                  by_cases hleft : 0 < x.left
                  · have hdl := hlate.out hleft
                    have hdf : decide (x.dead ≤ (t : Int)) = false := decide_eq_false (by omega)
                    go_wp2_with fail
                    go_meet
                    case rel => exact ⟨by first | rfl | rw [hdf], rfl⟩
                  · go_wp2_with fail
                    go_meet
                    case rel => exact ⟨rfl, rfl⟩
                case rest =>
                  obtain ⟨rfl, rfl⟩ := hcut
                  go_upto_region 23 with fail
                  go_cut [82] (fun s82 wx => s82 = .bool cb ∧ wx = wr.alloc (.cells #[.int .i64 x.s.k, .int .i64 x.s.q, .int .i64 x.s.t] 23))
                  case first =>
                    by_cases hnx : x.next ≤ t
                    · by_cases hl0 : x.left = 0
                      · have hle : (x.left == 0) = true := by simp; omega
                        go_wp2_with fail
                        go_meet
                        case rel => exact ⟨by rw [hcb.out, decide_eq_true (show x.next ≤ (t : Int) by omega), decide_eq_true (show x.left = 0 by omega)]; rfl, rfl⟩
                      · have hle : (x.left == 0) = false := by simp; omega
                        go_wp2_with fail
                        go_meet
                        case rel => exact ⟨by rw [hcb.out, decide_eq_false (show ¬ x.left = 0 by omega), Bool.and_false], rfl⟩
                    · go_wp2_with fail
                      go_meet
                      case rel => exact ⟨by rw [hcb.out, decide_eq_false (show ¬ x.next ≤ (t : Int) by omega)]; rfl, rfl⟩
                  case rest =>
                    obtain ⟨rfl, rfl⟩ := hcut
                    go_upto_if 82 with fail
                    go_cut [11] (fun s11 wx => ∃ (u3 : Nat) (x3 : St), s11 = .int .i64 u3 ∧ u3 ≤ t * 8 + (i + 1) ∧ x3.s = x.s ∧ Run d t (t + (d - B2)) (L2.set i x3) ∧ (B2 = 0 ∨ ∃ z ∈ L2.set i x3, 0 < z.left) ∧ RunW wx w.heap.size (L2.set i x3) ∧ Gr w wx)
                    case first =>
                      cases cb with
                      | true =>
                        have hnl := hcb.out.symm
                        rw [Bool.and_eq_true, decide_eq_true_iff, decide_eq_true_iff] at hnl
                        obtain ⟨hnx, hl0⟩ := hnl
                        replace hl0 := Lib.hid hl0
                        have hil2 : i < L2.length := by have := hLn2.out; omega
                        have hq0 : 0 < x.s.q := by omega
                        by_cases hw0 : 0 < wt.length
                        · have hmlt : u2 % wt.length < wt.length := Nat.mod_lt _ hw0
                          obtain ⟨m, hm2⟩ : ∃ m, m = u2 % wt.length := ⟨_, rfl⟩
                          rw [← hm2] at hmlt
                          obtain ⟨v, hv⟩ := get_some wt m hmlt
                          obtain ⟨v0, v1⟩ := hw.out v (List.mem_of_getElem? hv)
                          have hR4 := hR3.out.comes hbeg hx.out hnx hl0.out v v0 v1 (by omega)
                          have hx4 : (L2.set i ⟨x.s, x.s.q, (t : Int) + x.s.t, (t : Int) + x.s.t + v⟩)[i]? = some ⟨x.s, x.s.q, (t : Int) + x.s.t, (t : Int) + x.s.t + v⟩ := List.getElem?_set_self hil2
                          have hx3 : (L2.set i ⟨x.s, x.s.q, (t : Int) + x.s.t, (t : Int) + x.s.t⟩)[i]? = some ⟨x.s, x.s.q, (t : Int) + x.s.t, (t : Int) + x.s.t⟩ := List.getElem?_set_self hil2
                          have hOr4 : B2 = 0 ∨ ∃ z ∈ L2.set i ⟨x.s, x.s.q, (t : Int) + x.s.t, (t : Int) + x.s.t + v⟩, 0 < z.left := .inr ⟨_, List.mem_of_getElem? hx4, hq0⟩
                          have hmod : IntKind.i64.wrap ((u2 : Int).tmod (wt.length : Int)) = (m : Int) := by
                            have h1 : ((u2 : Int)).tmod (wt.length : Int) = ((u2 % wt.length : Nat) : Int) := by rw [Int.tmod_eq_emod_of_nonneg (by omega)]; rfl
                            rw [h1, ← hm2, IntKind.wrap_i64]
                            omega
                          have hmod2 : (u2 : Int).tmod (wt.length : Int) = (m : Int) := by rw [hm2, Int.tmod_eq_emod_of_nonneg (by omega)]; rfl
                          have hdz : ((wt.length : Int) == 0) = false := beq_eq_false_iff_ne.2 (by omega)
                          have hdz3 : ¬ wt.length = 0 := by omega
                          have hdz4 : ¬ wt = [] := fun e => by rw [e] at hw0; exact absurd hw0 (by decide)
                          have hm3 := hm2.symm
                          have hdz2 : ¬ (wt.length : Int) = 0 := by omega
                          have hwq : IntKind.i64.wrap ((t : Int) + x.s.t + v) = (t : Int) + x.s.t + v := by rw [IntKind.wrap_i64]; omega
                          replace hR4 := Lib.hid hR4
                          replace hOr4 := Lib.hid hOr4
                          replace hm2 := Lib.hid hm2
                          replace hv := Lib.hid hv
                          replace hx4 := Lib.hid hx4
                          replace hx3 := Lib.hid hx3
                          go_wp2_with fail
                          go_region_held3 (fun w' => w'.cell? ⟨wr.heap.size, 1, none⟩ = some (.int .i64 x.s.q) ∧ w'.cell? ⟨wr.heap.size, 2, none⟩ = some (.int .i64 x.s.t)) (simp (maxDischargeDepth := 8) [go_sem, *]) (fail)
                          have hW4 := ((hW2.out.comes i ⟨x.s, x.s.q, (t : Int) + x.s.t, (t : Int) + x.s.t⟩).alloc (.cells #[.int .i64 x.s.k, .int .i64 x.s.q, .int .i64 x.s.t] 23)).drew
                          have g4 := (((((hg2.setCell (p := ⟨w.heap.size, i, none⟩) (by simp) (.int .i64 x.s.q)).setCell (p := ⟨w.heap.size + 1, i, none⟩) (by simp) (.int .i64 ((t : Int) + x.s.t))).setCell (p := ⟨w.heap.size + 1 + 1, i, none⟩) (by simp; omega) (.int .i64 ((t : Int) + x.s.t))).alloc (.cells #[.int .i64 x.s.k, .int .i64 x.s.q, .int .i64 x.s.t] 23)).drew)
                          dsimp only at hW4
                          rw [show IntKind.i64.wrap ((t : Int) + x.s.t) = (t : Int) + x.s.t by rw [IntKind.wrap_i64]; omega]
                          generalize ((((wr.setCell ⟨w.heap.size, i, none⟩ (.int .i64 x.s.q)).setCell ⟨w.heap.size + 1, i, none⟩ (.int .i64 ((t : Int) + x.s.t))).setCell ⟨w.heap.size + 1 + 1, i, none⟩ (.int .i64 ((t : Int) + x.s.t))).alloc (.cells #[.int .i64 x.s.k, .int .i64 x.s.q, .int .i64 x.s.t] 23)).drew = w4 at hW4 g4 ⊢
                          clear c0 c1 c2 f0 f1 f2 e0 e1 e2
                          have q0 := hW4.n.cell (row_get (f := St.next) hx3.out)
                          have q1 := hW4.n.free i
                          have q3 := hW4.n.lt
                          obtain ⟨hba, q2⟩ := ints_at (ha.out.gr g4) hv.out
                          dsimp only at q0
                          replace hW4 := Lib.hid hW4
                          go_wp2_with fail
                          go_region
                          go_wp2_with fail
                          go_meet
                          case rel =>
                            refine ⟨u2 + 1, ⟨x.s, x.s.q, (t : Int) + x.s.t, (t : Int) + x.s.t + v⟩, by go_num, by omega, rfl, hR4.out, hOr4.out, ?_, (g4.setCell (by simp; omega) _).drew⟩
                            have h := (hW4.out.renext hx3.out ((t : Int) + x.s.t + v)).drew
                            rw [List.set_set] at h
                            exact h
                        · have hwz : decide ((0 : Int) < wt.length) = false := decide_eq_false (by omega)
                          have hR4 := hR3.out.comes hbeg hx.out hnx hl0.out 0 (by omega) (by omega) (by omega)
                          rw [Int.add_zero] at hR4
                          have hx4 : (L2.set i ⟨x.s, x.s.q, (t : Int) + x.s.t, (t : Int) + x.s.t⟩)[i]? = some ⟨x.s, x.s.q, (t : Int) + x.s.t, (t : Int) + x.s.t⟩ := List.getElem?_set_self hil2
                          have hOr4 : B2 = 0 ∨ ∃ z ∈ L2.set i ⟨x.s, x.s.q, (t : Int) + x.s.t, (t : Int) + x.s.t⟩, 0 < z.left := .inr ⟨_, List.mem_of_getElem? hx4, hq0⟩
                          replace hR4 := Lib.hid hR4
                          replace hOr4 := Lib.hid hOr4
                          replace hx4 := Lib.hid hx4
                          replace hw0 := Lib.hid hw0
                          go_wp2_with fail
                          go_region_held3 (fun w' => w'.cell? ⟨wr.heap.size, 1, none⟩ = some (.int .i64 x.s.q) ∧ w'.cell? ⟨wr.heap.size, 2, none⟩ = some (.int .i64 x.s.t)) (simp (maxDischargeDepth := 8) [go_sem, *]) (fail)
                          have hW4 := ((hW2.out.comes i ⟨x.s, x.s.q, (t : Int) + x.s.t, (t : Int) + x.s.t⟩).alloc (.cells #[.int .i64 x.s.k, .int .i64 x.s.q, .int .i64 x.s.t] 23)).drew
                          have g4 := (((((hg2.setCell (p := ⟨w.heap.size, i, none⟩) (by simp) (.int .i64 x.s.q)).setCell (p := ⟨w.heap.size + 1, i, none⟩) (by simp) (.int .i64 ((t : Int) + x.s.t))).setCell (p := ⟨w.heap.size + 1 + 1, i, none⟩) (by simp; omega) (.int .i64 ((t : Int) + x.s.t))).alloc (.cells #[.int .i64 x.s.k, .int .i64 x.s.q, .int .i64 x.s.t] 23)).drew)
                          dsimp only at hW4
                          rw [show IntKind.i64.wrap ((t : Int) + x.s.t) = (t : Int) + x.s.t by rw [IntKind.wrap_i64]; omega]
                          generalize ((((wr.setCell ⟨w.heap.size, i, none⟩ (.int .i64 x.s.q)).setCell ⟨w.heap.size + 1, i, none⟩ (.int .i64 ((t : Int) + x.s.t))).setCell ⟨w.heap.size + 1 + 1, i, none⟩ (.int .i64 ((t : Int) + x.s.t))).alloc (.cells #[.int .i64 x.s.k, .int .i64 x.s.q, .int .i64 x.s.t] 23)).drew = w4 at hW4 g4 ⊢
                          clear c0 c1 c2 f0 f1 f2 e0 e1 e2
                          replace hW4 := Lib.hid hW4
                          go_wp2_with fail
                          go_meet
                          case rel => exact ⟨u2, ⟨x.s, x.s.q, (t : Int) + x.s.t, (t : Int) + x.s.t⟩, rfl, by omega, rfl, hR4.out, hOr4.out, hW4.out, g4⟩
                      | false =>
                        have hsame : L2.set i x = L2 := set_self hx.out
                        have hR4 := hR3.out
                        have hOr4 := hOr2.out
                        have hW4 := hW2.out.alloc (.cells #[.int .i64 x.s.k, .int .i64 x.s.q, .int .i64 x.s.t] 23)
                        rw [← hsame] at hR4 hOr4 hW4
                        replace hR4 := Lib.hid hR4
                        replace hOr4 := Lib.hid hOr4
                        replace hW4 := Lib.hid hW4
                        replace hsame := Lib.hid hsame
                        go_wp2_with fail
                        go_meet
                        case rel => exact ⟨u2, x, rfl, by omega, rfl, hR4.out, hOr4.out, hW4.out, hg2.alloc _⟩
                    case rest =>
                      obtain ⟨u3, x3, rfl, hu3, hxs, hR4, hOr4, hW4, g4⟩ := hcut
                      clear c0 c1 c2 f0 f1 f2 e0 e1 e2 hW2 hR3 hOr2
                      have hil2 : i < L2.length := by have := hLn2.out; omega
                      have hx4 : (L2.set i x3)[i]? = some x3 := List.getElem?_set_self hil2
                      have hLs4 : (L2.set i x3).map St.s = l := by rw [set_same hx.out x3 hxs]; exact hLs2.out
                      have hB4 := hBe.out.set x3
                      have r0 := GrW.cell (hW4.l.cell (row_get (f := St.left) hx4))
                      have r1 := GrW.cell (hW4.d.cell (row_get (f := St.dead) hx4))
                      have hxo := hR4.ok x3 (List.mem_of_getElem? hx4)
                      have hxd := hxo.d0
                      have hxd2 := hxo.d1
                      have hxl0 := hxo.l0
                      have hxl1 := hxo.l1
                      have hxq := hxo.q2
                      have hxt := hxo.t2
                      replace hLs4 := Lib.hid hLs4
                      replace hR4 := Lib.hid hR4
                      replace hOr4 := Lib.hid hOr4
                      replace hxs := Lib.hid hxs
                      replace hxo := Lib.hid hxo
                      by_cases hx4l : 0 < x3.left
                      · rcases hB4 with ⟨rfl, hz⟩ | ⟨k, y, rfl, hk, hy, hyl, hmin⟩
                        · have hB2n := Best.first hz hx4 hx4l
                          replace hB2n := Lib.hid hB2n
                          replace hx4 := Lib.hid hx4
                          replace hW4 := Lib.hid hW4
                          clear hz
                          go_upto_region 28 with fail
                          refine wp_region_grows (by kernel_rfl) (by kernel_rfl) ?_
                          repeat (any_goals (first | go_big_quiet_step (first | fail) | quiet_step (first | fail)))
                          refine wpQuiet_nil ?_
                          intro wz hwq
                          have gz := GrW.of hwq
                          clear hwq
                          obtain ⟨cz, fz, sz⟩ := gz.cells
                          try simp only [size_drewN] at cz fz sz
                          try simp only [World.size_alloc] at cz fz sz
                          try simp only [World.size_drew] at cz fz sz
                          try simp only [World.size_setCell] at cz fz sz
                          go_wp2_with fail
                          go_roundw
                          case rel => exact ⟨i + 1, u3, _, L2.set i x3, by omega, by go_num, rfl, by first | rfl | go_num, by omega, hB2n.out, hR4.out, hLs4.out, hOr4.out, hW4.out.grow gz, g4.trans gz⟩
                          case measure => simp [intOf]; omega
                        · have r2 := GrW.cell (hW4.d.cell (row_get (f := St.dead) hy))
                          have hyo := hR4.out.ok y (List.mem_of_getElem? hy)
                          have hkl : k < l.length := by omega
                          have hyd := hyo.d0
                          have hyd2 := hyo.d1
                          replace hyo := Lib.hid hyo
                          replace hW4 := Lib.hid hW4
                          by_cases hd : x3.dead < y.dead
                          · have hB2n := Best.less hmin hx4 hx4l hd
                            replace hB2n := Lib.hid hB2n
                            replace hx4 := Lib.hid hx4
                            replace hy := Lib.hid hy
                            clear hmin
                            go_upto_region 28 with fail
                            refine wp_region_grows (by kernel_rfl) (by kernel_rfl) ?_
                            repeat (any_goals (first | go_big_quiet_step (first | fail) | quiet_step (first | fail)))
                            refine wpQuiet_nil ?_
                            intro wz hwq
                            have gz := GrW.of hwq
                            clear hwq
                            obtain ⟨cz, fz, sz⟩ := gz.cells
                            try simp only [size_drewN] at cz fz sz
                            try simp only [World.size_alloc] at cz fz sz
                            try simp only [World.size_drew] at cz fz sz
                            try simp only [World.size_setCell] at cz fz sz
                            go_wp2_with fail
                            go_roundw
                            case rel => exact ⟨i + 1, u3, _, L2.set i x3, by omega, by go_num, rfl, by first | rfl | go_num, by omega, hB2n.out, hR4.out, hLs4.out, hOr4.out, hW4.out.grow gz, g4.trans gz⟩
                            case measure => simp [intOf]; omega
                          · have hB2n := Best.stay hk hy hyl hmin hx4 (by omega)
                            replace hB2n := Lib.hid hB2n
                            replace hx4 := Lib.hid hx4
                            replace hy := Lib.hid hy
                            clear hmin
                            go_upto_region 28 with fail
                            refine wp_region_grows (by kernel_rfl) (by kernel_rfl) ?_
                            repeat (any_goals (first | go_big_quiet_step (first | fail) | quiet_step (first | fail)))
                            refine wpQuiet_nil ?_
                            intro wz hwq
                            have gz := GrW.of hwq
                            clear hwq
                            obtain ⟨cz, fz, sz⟩ := gz.cells
                            try simp only [size_drewN] at cz fz sz
                            try simp only [World.size_alloc] at cz fz sz
                            try simp only [World.size_drew] at cz fz sz
                            try simp only [World.size_setCell] at cz fz sz
                            go_wp2_with fail
                            go_roundw
                            case rel => exact ⟨i + 1, u3, _, L2.set i x3, by omega, by go_num, rfl, by first | rfl | go_num, by omega, hB2n.out, hR4.out, hLs4.out, hOr4.out, hW4.out.grow gz, g4.trans gz⟩
                            case measure => simp [intOf]; omega
                      · have hB2n := hB4.skip hx4 (by omega)
                        replace hB2n := Lib.hid hB2n
                        replace hx4 := Lib.hid hx4
                        replace hW4 := Lib.hid hW4
                        clear hB4
                        go_upto_region 28 with fail
                        refine wp_region_grows (by kernel_rfl) (by kernel_rfl) ?_
                        repeat (any_goals (first | go_big_quiet_step (first | fail) | quiet_step (first | fail)))
                        refine wpQuiet_nil ?_
                        intro wz hwq
                        have gz := GrW.of hwq
                        clear hwq
                        obtain ⟨cz, fz, sz⟩ := gz.cells
                        try simp only [size_drewN] at cz fz sz
                        try simp only [World.size_alloc] at cz fz sz
                        try simp only [World.size_drew] at cz fz sz
                        try simp only [World.size_setCell] at cz fz sz
                        go_wp2_with fail
                        go_roundw
                        case rel => exact ⟨i + 1, u3, _, L2.set i x3, by omega, by go_num, rfl, by first | rfl | go_num, by omega, hB2n.out, hR4.out, hLs4.out, hOr4.out, hW4.out.grow gz, g4.trans gz⟩
                        case measure => simp [intOf]; omega
              · obtain rfl : i = l.length := by omega
                have et : ((t + 1 : Nat) : Int) = (t : Int) + 1 := by omega
                have hLl := hLn2
                replace hLs2 := Lib.hid hLs2
                replace hLn2 := Lib.hid hLn2
                rcases hBe with ⟨rfl, hz⟩ | ⟨k, y, rfl, hk, hy, hyl, hmin⟩
                · have hz2 : ∀ x ∈ L2, x.left = 0 := fun x hx => by
                    obtain ⟨j, hj⟩ := List.getElem?_of_mem hx
                    exact hz j x (by have := get_lt hj; omega) hj
                  have hB0n : B2 = 0 := by
                    rcases hOr2 with h | ⟨x, hx, h⟩
                    · exact h
                    · have := hz2 x hx
                      omega
                  have hR5 := hR3.idle hz2
                  rw [show (t : Int) + 1 + d = (t : Int) + 1 + (d - B2) by omega, ← et] at hR5
                  replace hR5 := Lib.hid hR5
                  replace hW2 := Lib.hid hW2
                  clear hR3 hz hz2 hOr2 hLl hB0n et
                  go_wp2_with fail
                  go_roundw
                  case rel => exact ⟨t + 1, u2, B2, M, L2, by omega, by go_num, rfl, by omega, rfl, rfl, by omega, by omega, by omega, by omega, hR5.out, hLs2.out, hW2.out, hg2⟩
                  case measure => simp [intOf]; omega
                · have hmin2 : ∀ z ∈ L2, 0 < z.left → y.dead ≤ z.dead := fun z hzm hzl => by
                    obtain ⟨j, hj⟩ := List.getElem?_of_mem hzm
                    exact hmin j z (by have := get_lt hj; omega) hj hzl
                  have hR5 := hR3.runs hy hyl hmin2
                  rw [show (t : Int) + (d - B2) = (t : Int) + 1 + (d - (B2 + 1)) by omega, ← et] at hR5
                  have hLs5 : (L2.set k ⟨y.s, y.left - 1, y.dead, y.next⟩).map St.s = l := by rw [set_same hy ⟨y.s, y.left - 1, y.dead, y.next⟩ rfl]; exact hLs2.out
                  have hyo := hR3.ok y (List.mem_of_getElem? hy)
                  have r0 := hW2.l.cell (row_get (f := St.left) hy)
                  have r1 := hW2.l.free k
                  have r3 := hW2.l.lt
                  have hy1 := hyo.l1
                  have hy2 := hyo.q2
                  have hy3 := hyo.t2
                  have hW5 := hW2.runs hy
                  replace hW5 := Lib.hid hW5
                  replace hR5 := Lib.hid hR5
                  replace hLs5 := Lib.hid hLs5
                  replace hW2 := Lib.hid hW2
                  clear hR3 hmin hmin2 hOr2 hLl et hyo
                  replace hy := Lib.hid hy
                  go_wp2_with fail
                  go_roundw
                  case rel => exact ⟨t + 1, u2, B2 + 1, max M (B2 + 1), L2.set k ⟨y.s, y.left - 1, y.dead, y.next⟩, by omega, by go_num, rfl, by omega, by go_num, by first | rfl | go_num, by omega, by omega, by omega, by omega, hR5.out, hLs5.out, hW5.out, hg2.setCell (by simp) _⟩
                  case measure => simp [intOf]; omega
    · obtain rfl : t = 1500 := by omega
      go_wp2_with fail
      go_ret2
      exact ⟨M, rfl, hM1, hg⟩
end Go.Proofs.YtmookdgeblcjnaaDoor
