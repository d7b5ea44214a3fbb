/- wire.Reader: Num, Bytes, Left, End, NewReader. -/
import Derived.Test.YtlgbnjaoadlolaaDoorP17
import Derived.Deep.RegionWith
namespace Go.Proofs.YtlgbnjaoadlolaaDoor
open Go.RowKit

theorem numR_bd {l : List UInt8} {q : Nat × Nat} (h : numR l = some q) : q.1 < 9223372036854775808 ∧ 1 ≤ q.2 ∧ q.2 ≤ 9 ∧ q.2 ≤ l.length := by
  unfold numR at h
  split at h
  · cases h
  · rename_i x hx
    split at h
    · cases h
    · cases h
      obtain ⟨h1, h2, h3, h4⟩ := rdN_bd 9 l _ hx
      exact ⟨h1, h2, h3, h4⟩
theorem number_yes {K : Nat → Prop} (w : World) (rb : Nat) (p : List UInt8) (at_ : Nat) (h : RdAt K w rb p at_) {v k : Nat} (hq : numR (p.drop at_) = some (v, k)) :
    Calls Tryd.prog 54 #[.pointer (some ⟨rb, 0, none⟩), .int .i64 at_] w fun e w' => e = .returned (.tuple #[.int .i64 v, .int .i64 ((at_ + k : Nat) : Int), .bool true]) ∧ w = w' :=
  (number_any w rb p at_ h).mono fun e w' ⟨h1, h2⟩ => by rw [hq] at h2; exact ⟨h2, h1⟩
theorem number_no {K : Nat → Prop} (w : World) (rb : Nat) (p : List UInt8) (at_ : Nat) (h : RdAt K w rb p at_) (hq : numR (p.drop at_) = none) :
    Calls Tryd.prog 54 #[.pointer (some ⟨rb, 0, none⟩), .int .i64 at_] w fun e w' => ∃ a b : Int, e = .returned (.tuple #[.int .i64 a, .int .i64 b, .bool false]) ∧ w = w' :=
  (number_any w rb p at_ h).mono fun e w' ⟨h1, h2⟩ => by rw [hq] at h2; obtain ⟨a, b, h3⟩ := h2; exact ⟨a, b, h3, h1⟩

set_option maxRecDepth 100000 in
set_option maxHeartbeats 1600000 in
theorem rnum_yes {K : Nat → Prop} (w : World) (rb : Nat) (p : List UInt8) (at_ : Nat) (most : Int) (h : RdAt K w rb p at_) {v k : Nat} (hq : numR (p.drop at_) = some (v, k)) (hm : (v : Int) ≤ most) :
    Calls Tryd.prog 53 #[.pointer (some ⟨rb, 0, none⟩), .int .i64 most] w fun e w' => e = .returned (.tuple #[.int .i64 v, .nilIface]) ∧ RdAt K w' rb p (at_ + k) ∧ GrX [rb] w w' := by
  have hn := number_yes w rb p at_ h hq
  have hkb := (numR_bd hq).2.2.2
  rw [List.length_drop] at hkb
  obtain ⟨a, c, hb, hr, hcn, hax, hat, hpc, hpm⟩ := h
  have c1 := hb.cell (i := 1) (v := .int .i64 at_) rfl
  have f1 := hb.free 1
  have hz := hb.lt
  dsimp only at hkb
  replace hn := Lib.hid hn
  replace hb := Lib.hid hb
  replace hax := Lib.hid hax
  replace hcn := Lib.hid hcn
  replace hr := Lib.hid hr
  replace hq := Lib.hid hq
  obtain ⟨t, ht⟩ : ∃ t : Int, ((at_ + k : Nat) : Int) = t := ⟨_, rfl⟩
  rw [ht] at hn
  replace ht := Lib.hid ht
  go_enter Tryd.func53, Tryd.ntmps53
  go_wp2_with fail
  refine (hn.out).mono ?_
  rintro e wa ⟨rfl, rfl⟩
  go_wp2_with fail
  go_ret2
  refine ⟨rfl, ⟨a, c, ?_, hr.out.set (fun x hx => (hax.out x hx).1) _, hcn.out, hax.out, by omega, hpc, hpm⟩, (GrX.refl _ _).set (.inl (by simp)) _⟩
  have := hb.out.set 1 (.int .i64 t)
  rw [ht.out]
  exact this
set_option maxRecDepth 100000 in
set_option maxHeartbeats 1600000 in
theorem rnum_no {K : Nat → Prop} {G : List Nat} {E : Nat → Addr} (w : World) (rb : Nat) (p : List UInt8) (at_ : Nat) (most : Int) (h : RdAt K w rb p at_) (hE : EAt G E w) (i1 : 1 ∈ G) (hq : ∀ v k, numR (p.drop at_) = some (v, k) → most < v) :
    Calls Tryd.prog 53 #[.pointer (some ⟨rb, 0, none⟩), .int .i64 most] w fun e w' => e = .returned (.tuple #[.int .i64 0, (Value.iface 137 (.pointer (some (E 1))))]) ∧ Gr w w' := by
  have he := hE.c0 i1
  have h0 := h
  obtain ⟨a, c, hb, hr, hcn, hax, hat, hpc, hpm⟩ := h
  have c1 := hb.cell (i := 1) (v := .int .i64 at_) rfl
  have hz := hb.lt
  replace hb := Lib.hid hb
  replace hax := Lib.hid hax
  replace hcn := Lib.hid hcn
  replace hr := Lib.hid hr
  cases hn : numR (p.drop at_) with
  | none =>
    have hc := number_no w rb p at_ h0 hn
    replace hc := Lib.hid hc
    replace hn := Lib.hid hn
    replace hq := Lib.hid hq
    go_enter Tryd.func53, Tryd.ntmps53
    go_wp2_with fail
    refine hc.out.mono ?_
    rintro e w1 ⟨x, y, rfl, rfl⟩
    go_upto_region 3 with fail
    go_region
    go_wp2_with fail
    go_ret2
    exact ⟨rfl, (by repeat (first | exact Gr.refl _ | apply Gr.alloc | apply Gr.drew | apply Gr.drewN | (refine Gr.setCell ?_ (by first | (simp; done) | (simp; omega)) _) | (refine Gr.trans ?_ (by assumption))))⟩
  | some q =>
    obtain ⟨v, k⟩ := q
    have hm := hq v k hn
    have hc := number_yes w rb p at_ h0 hn
    obtain ⟨t, ht⟩ : ∃ t : Int, ((at_ + k : Nat) : Int) = t := ⟨_, rfl⟩
    rw [ht] at hc
    replace ht := Lib.hid ht
    replace hc := Lib.hid hc
    replace hn := Lib.hid hn
    replace hq := Lib.hid hq
    go_enter Tryd.func53, Tryd.ntmps53
    go_wp2_with fail
    refine (hc.out).mono ?_
    rintro e wa ⟨rfl, rfl⟩
    go_upto_region 3 with fail
    go_region
    go_wp2_with fail
    go_ret2
    exact ⟨rfl, (by repeat (first | exact Gr.refl _ | apply Gr.alloc | apply Gr.drew | apply Gr.drewN | (refine Gr.setCell ?_ (by first | (simp; done) | (simp; omega)) _) | (refine Gr.trans ?_ (by assumption))))⟩
set_option maxHeartbeats 1600000 in
theorem left_any {K : Nat → Prop} (w : World) (rb : Nat) (p : List UInt8) (at_ : Nat) (h : RdAt K w rb p at_) :
    Calls Tryd.prog 56 #[.pointer (some ⟨rb, 0, none⟩)] w fun e w' => e = .returned (.int .i64 ((p.length : Int) - at_)) ∧ Gr w w' := by
  obtain ⟨a, c, hb, hr, hcn, hax, hat, hpc, hpm⟩ := h
  have c0 := GrW.cell (hb.cell (i := 0) (v := .slice a p.length c) rfl)
  have c1 := GrW.cell (hb.cell (i := 1) (v := .int .i64 at_) rfl)
  have hz := hb.lt
  replace hb := Lib.hid hb
  replace hax := Lib.hid hax
  replace hcn := Lib.hid hcn
  replace hr := Lib.hid hr
  go_enter Tryd.func56, Tryd.ntmps56
  go_upto_region 1 with fail
  refine wp_region_grows (by kernel_rfl) (by kernel_rfl) ?_
  repeat (any_goals (first | go_big_quiet_step (first | fail) | quiet_step (first | fail)))
  refine wpQuiet_nil ?_
  intro wz hwq
  have gz := GrW.of hwq
  clear hwq
  obtain ⟨cz, fz, sz⟩ := gz.cells
  try simp only [size_drewN] at cz fz sz
  try simp only [World.size_alloc] at cz fz sz
  try simp only [World.size_drew] at cz fz sz
  try simp only [World.size_setCell] at cz fz sz
  go_wp2_with fail
  go_ret
  exact ⟨ret1 (by first | rfl | (rw [IntWalk.i64_in _ (by omega)])), gz⟩
set_option maxHeartbeats 1600000 in
theorem rend_yes {K : Nat → Prop} (w : World) (rb : Nat) (p : List UInt8) (h : RdAt K w rb p p.length) :
    Calls Tryd.prog 33 #[.pointer (some ⟨rb, 0, none⟩)] w fun e w' => e = .returned .nilIface ∧ Gr w w' := by
  have hl := left_any w rb p p.length h
  rw [Int.sub_self] at hl
  replace hl := Lib.hid hl
  replace h := Lib.hid h
  go_enter Tryd.func33, Tryd.ntmps33
  go_wp2_with fail
  refine (hl.out).mono ?_
  rintro e wa ⟨rfl, ga⟩
  obtain ⟨ca, fa, sa⟩ := ga.cells
  try simp only [size_drewN] at ca fa sa
  try simp only [World.size_alloc] at ca fa sa
  try simp only [World.size_drew] at ca fa sa
  try simp only [World.size_setCell] at ca fa sa
  go_wp2_with fail
  go_ret
  exact ⟨rfl, ga⟩
set_option maxHeartbeats 1600000 in
theorem rend_no {K : Nat → Prop} {G : List Nat} {E : Nat → Addr} (w : World) (rb : Nat) (p : List UInt8) (at_ : Nat) (h : RdAt K w rb p at_) (hlt : at_ < p.length) (hE : EAt G E w) (i1 : 1 ∈ G) :
    Calls Tryd.prog 33 #[.pointer (some ⟨rb, 0, none⟩)] w fun e w' => e = .returned (Value.iface 137 (.pointer (some (E 1)))) ∧ Gr w w' := by
  have hl := left_any w rb p at_ h
  have hlt2 : decide ((0 : Int) < (p.length : Int) - at_) = true := decide_eq_true (by omega)
  obtain ⟨d, hd⟩ : ∃ d : Int, (p.length : Int) - at_ = d := ⟨_, rfl⟩
  rw [hd] at hl hlt2
  replace hd := Lib.hid hd
  replace hl := Lib.hid hl
  replace h := Lib.hid h
  go_enter Tryd.func33, Tryd.ntmps33
  go_wp2_with fail
  refine (hl.out).mono ?_
  rintro e wa ⟨rfl, ga⟩
  obtain ⟨ca, fa, sa⟩ := ga.cells
  try simp only [size_drewN] at ca fa sa
  try simp only [World.size_alloc] at ca fa sa
  try simp only [World.size_drew] at ca fa sa
  try simp only [World.size_setCell] at ca fa sa
  have he := (hE.gr ga).c0 i1
  clear ca fa
  go_wp2_with fail
  go_ret
  exact ⟨rfl, ga⟩
end Go.Proofs.YtlgbnjaoadlolaaDoor
