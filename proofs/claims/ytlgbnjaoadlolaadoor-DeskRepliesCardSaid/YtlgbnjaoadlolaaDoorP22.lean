/- desk.GetReply. -/
import Derived.Test.YtlgbnjaoadlolaaDoorP21
namespace Go.Proofs.YtlgbnjaoadlolaaDoor
open Go.RowKit

theorem numbers_yes {G : List Nat} {E : Nat → Addr} (W w : World) (hE : EAt G E W) (i1 : 1 ∈ G) (gW : Gr W w) (rb ab tb m : Nat) (p : List UInt8) (at_ : Nat) (cs : Array Value) (t : TypeId) (h : RdAt (· ≠ ab) w rb p at_) (hrW : W.heap.size ≤ rb) (haW : W.heap.size ≤ ab) (hra : rb ≠ ab) (hrt : tb ≠ rb) (hat : tb ≠ ab) (htl : tb < w.heap.size)
    (hb : Blk w ab cs t) (hm : m ≤ cs.size) (hm2 : m ≤ 100) (hT : ∀ j, j < m → w.cell? ⟨tb, j, none⟩ = some (.pointer (some ⟨ab, j, none⟩))) {ns : List Nat} {k : Nat} (hn : numsR m (p.drop at_) = some (ns, k)) :
    Calls Tryd.prog 31 #[.pointer (some ⟨rb, 0, none⟩), .slice (some ⟨tb, 0, none⟩) m m] w fun e w' => e = .returned .nilIface ∧ GrX [rb, ab] w w' ∧ RdAt (· ≠ ab) w' rb p (at_ + k) ∧ Blk w' ab (over cs ns) t :=
  (numbers_any W w hE i1 gW rb ab tb m p at_ cs t h hrW haW hra hrt hat htl hb hm hm2 hT).mono fun e w' ⟨h1, h2⟩ => by rw [hn] at h2; exact ⟨h2.1, h1, h2.2⟩
theorem numbers_no {G : List Nat} {E : Nat → Addr} (W w : World) (hE : EAt G E W) (i1 : 1 ∈ G) (gW : Gr W w) (rb ab tb m : Nat) (p : List UInt8) (at_ : Nat) (cs : Array Value) (t : TypeId) (h : RdAt (· ≠ ab) w rb p at_) (hrW : W.heap.size ≤ rb) (haW : W.heap.size ≤ ab) (hra : rb ≠ ab) (hrt : tb ≠ rb) (hat : tb ≠ ab) (htl : tb < w.heap.size)
    (hb : Blk w ab cs t) (hm : m ≤ cs.size) (hm2 : m ≤ 100) (hT : ∀ j, j < m → w.cell? ⟨tb, j, none⟩ = some (.pointer (some ⟨ab, j, none⟩))) (hn : numsR m (p.drop at_) = none) :
    Calls Tryd.prog 31 #[.pointer (some ⟨rb, 0, none⟩), .slice (some ⟨tb, 0, none⟩) m m] w fun e w' => e = .returned (Value.iface 137 (.pointer (some (E 1)))) ∧ GrX [rb, ab] w w' :=
  (numbers_any W w hE i1 gW rb ab tb m p at_ cs t h hrW haW hra hrt hat htl hb hm hm2 hT).mono fun e w' ⟨h1, h2⟩ => by rw [hn] at h2; exact ⟨h2, h1⟩
theorem GrX.set5 {S : List Nat} {w a : World} {b : Nat} (h : GrX S w a) (hb : b ∈ S) (v0 v1 v2 v3 v4 : Value) : GrX S w (((((a.setCell ⟨b, 0, none⟩ v0).setCell ⟨b, 1, none⟩ v1).setCell ⟨b, 2, none⟩ v2).setCell ⟨b, 3, none⟩ v3).setCell ⟨b, 4, none⟩ v4) := (GrX.set (GrX.set (GrX.set (GrX.set (GrX.set h (p := ⟨b, 0, none⟩) (.inl hb) v0) (p := ⟨b, 1, none⟩) (.inl hb) v1) (p := ⟨b, 2, none⟩) (.inl hb) v2) (p := ⟨b, 3, none⟩) (.inl hb) v3) (p := ⟨b, 4, none⟩) (.inl hb) v4)
theorem GrX.set11 {S : List Nat} {w a : World} {b : Nat} (h : GrX S w a) (hb : b ∈ S) (v0 v1 v2 v3 v4 v5 v6 v7 v8 v9 v10 : Value) : GrX S w (((((((((((a.setCell ⟨b, 0, none⟩ v0).setCell ⟨b, 1, none⟩ v1).setCell ⟨b, 2, none⟩ v2).setCell ⟨b, 3, none⟩ v3).setCell ⟨b, 4, none⟩ v4).setCell ⟨b, 5, none⟩ v5).setCell ⟨b, 6, none⟩ v6).setCell ⟨b, 7, none⟩ v7).setCell ⟨b, 8, none⟩ v8).setCell ⟨b, 9, none⟩ v9).setCell ⟨b, 10, none⟩ v10) := (GrX.set (GrX.set (GrX.set (GrX.set (GrX.set (GrX.set (GrX.set (GrX.set (GrX.set (GrX.set (GrX.set h (p := ⟨b, 0, none⟩) (.inl hb) v0) (p := ⟨b, 1, none⟩) (.inl hb) v1) (p := ⟨b, 2, none⟩) (.inl hb) v2) (p := ⟨b, 3, none⟩) (.inl hb) v3) (p := ⟨b, 4, none⟩) (.inl hb) v4) (p := ⟨b, 5, none⟩) (.inl hb) v5) (p := ⟨b, 6, none⟩) (.inl hb) v6) (p := ⟨b, 7, none⟩) (.inl hb) v7) (p := ⟨b, 8, none⟩) (.inl hb) v8) (p := ⟨b, 9, none⟩) (.inl hb) v9) (p := ⟨b, 10, none⟩) (.inl hb) v10)
abbrev repZ : Value := .agg #[.int .i64 0, .int .i64 0, .int .i64 0, .int .i64 0, .slice none 0 0]
/-- Four pointers to the first cells of a variable. -/
theorem ptrs4 {w : World} {tb ab : Nat} {t : TypeId} (h : Blk w tb #[.pointer (some ⟨ab, 0, none⟩), .pointer (some ⟨ab, 1, none⟩), .pointer (some ⟨ab, 2, none⟩), .pointer (some ⟨ab, 3, none⟩)] t) : ∀ j, j < 4 → w.cell? ⟨tb, j, none⟩ = some (.pointer (some ⟨ab, j, none⟩)) := fun j hj => by
  match j, hj with
  | 0, _ => exact h.cell rfl
  | 1, _ => exact h.cell rfl
  | 2, _ => exact h.cell rfl
  | 3, _ => exact h.cell rfl
set_option maxRecDepth 100000 in
set_option maxHeartbeats 3200000 in
theorem getReply_yes {G : List Nat} {E : Nat → Addr} (w : World) (hE : EAt G E w) (i1 : 1 ∈ G) (b off c : Nat) (L : List UInt8) (hS : BytesAt w (some ⟨b, off, none⟩) (frameB L)) (hL : L.length ≤ 32768) (hc : (frameB L).length ≤ c)
    (n0 n1 n2 n3 k n j : Nat) (hk : numsR 4 L = some ([n0, n1, n2, n3], k)) (hq : numR (L.drop k) = some (n, j)) (hn : n ≤ 16000) (he : k + j + n = L.length) :
    Calls Tryd.prog 14 #[.slice (some ⟨b, off, none⟩) (frameB L).length c] w fun e w' => ∃ a' c', e = .returned (.tuple #[.agg #[.int .i64 n0, .int .i64 n1, .int .i64 n2, .int .i64 n3, .slice a' n c'], .nilIface]) ∧ Own w w' a' c' (L.drop (k + j)) := by
  have hop := opened_yes (w.alloc (.cells #[.int .i64 0, .int .i64 0, .int .i64 0, .int .i64 0, .slice none 0 0] 24)) b off c L (hS.gr ((Gr.refl w).alloc _)) hL hc
  obtain ⟨N, hN⟩ : ∃ N, (frameB L).length = N := ⟨_, rfl⟩
  rw [hN] at hop ⊢
  replace hN := Lib.hid hN
  replace hop := Lib.hid hop
  replace hS := Lib.hid hS
  replace hk := Lib.hid hk
  replace hq := Lib.hid hq
  replace he := Lib.hid he
  go_enter Tryd.func14, Tryd.ntmps14
  go_wp2_with fail
  refine hop.out.mono ?_
  rintro e w1 ⟨rb, rfl, hr1, hr2, g1⟩
  have hb1 : Blk w1 w.heap.size #[.int .i64 0, .int .i64 0, .int .i64 0, .int .i64 0, .slice none 0 0] 24 := (Blk.new w _ _).gr g1
  have gw1 : Gr w w1 := ((Gr.refl w).alloc _).trans g1
  have z1 := gw1.size
  have z2 := g1.size
  simp only [World.size_alloc] at z2 hr2
  obtain ⟨ab, hab⟩ : ∃ ab, w1.heap.size = ab := ⟨_, rfl⟩
  rw [hab] at z1 hr1
  have hr2' : RdAt (· ≠ ab) w1 rb L 0 := hr1.mono (fun b hb => by omega)
  have hrl : rb < ab := by obtain ⟨_, _, hh, _⟩ := hr1; have := hh.lt; omega
  have hkl := hk.out
  replace hr1 := Lib.hid hr1
  replace hr2' := Lib.hid hr2'
  replace hb1 := Lib.hid hb1
  replace hkl := Lib.hid hkl
  go_wp2_with fail
  refine (numbers_yes w _ hE i1 ((gw1.alloc _).alloc _) rb ab (ab + 1) 4 L 0 #[.int .i64 0, .int .i64 0, .int .i64 0, .int .i64 0, .slice none 0 0] 24 ((hr2'.out.gr ((Gr.refl w1).alloc _)).gr ((Gr.refl _).alloc _)) (by omega) (by omega) (by omega) (by omega) (by omega) (by simp; omega) ((Blk.new1 hab).alloc _) (by decide) (by decide) (ptrs4 (t := 71) (Blk.new1 (by simp [hab]))) hkl.out).mono ?_
  rintro e w3 ⟨rfl, g3, hr3, hb3⟩
  have gw3 : Gr w w3 := GrX.all ((gw1.alloc _).alloc _) g3 (fun x hx => by simp at hx; rcases hx with rfl | rfl <;> omega)
  have hb3' : Blk w3 ab #[.int .i64 n0, .int .i64 n1, .int .i64 n2, .int .i64 n3, .slice none 0 0] 24 := hb3
  have hc3 : Blk w3 w.heap.size #[.int .i64 0, .int .i64 0, .int .i64 0, .int .i64 0, .slice none 0 0] 24 := ((hb1.out.alloc _).alloc _).grx g3 (by simp; omega)
  have hkb := (numR_bd hq.out).2.2.2
  dsimp only at hkb
  rw [List.length_drop] at hkb
  have he' := he.out
  rw [Nat.zero_add] at hr3
  have hby := rbytes_yes w3 rb L k 16000 hr3 hq.out (by omega) (by omega)
  have z3 := gw3.size
  have zab := hb3'.lt
  clear g3 hb3
  replace hr3 := Lib.hid hr3
  replace hb3' := Lib.hid hb3'
  replace hc3 := Lib.hid hc3
  replace hby := Lib.hid hby
  replace he' := Lib.hid he'
  go_wp2_with fail
  refine hby.out.mono ?_
  rintro e w4 ⟨a4, c4, rfl, ho4, hr4, g4⟩
  have hb4 := hb3'.out.grx g4 (by simp; omega)
  have hc4 := hc3.out.grx g4 (by simp; omega)
  have e4 := hb4.cell (i := 4) (v := .slice none 0 0) rfl
  have f4 := hb4.free 4
  obtain ⟨w5, hw5⟩ : ∃ w5, w5 = w4.setCell ⟨ab, 4, none⟩ (.slice a4 n c4) := ⟨_, rfl⟩
  have g5 : GrX [ab] w4 w5 := by rw [hw5]; exact (GrX.refl _ _).set (.inl (by simp)) _
  have hb5 : Blk w5 ab #[.int .i64 n0, .int .i64 n1, .int .i64 n2, .int .i64 n3, .slice a4 n c4] 24 := by rw [hw5]; exact hb4.set 4 _
  have hc5 := hc4.grx g5 (by simp; omega)
  have hr5 := hr4.grx g5 (by simp; omega) (fun b hb => by simpa using hb)
  rw [he'.out] at hr5
  have hen := rend_yes w5 rb L hr5
  replace hw5 := Lib.hid hw5
  replace hr5 := Lib.hid hr5
  replace hr4 := Lib.hid hr4
  replace hb4 := Lib.hid hb4
  replace hc4 := Lib.hid hc4
  replace hb5 := Lib.hid hb5
  replace hc5 := Lib.hid hc5
  replace hen := Lib.hid hen
  replace ho4 := Lib.hid ho4
  go_upto_region 9 with fail
  rw [← hw5.out]
  go_wp2_with fail
  refine hen.out.mono ?_
  rintro e w6 ⟨rfl, g6⟩
  have hb6 := hb5.out.gr g6
  have hc6 := hc5.out.gr g6
  have p0 := hb6.cell (i := 0) (v := .int .i64 n0) rfl
  have p1 := hb6.cell (i := 1) (v := .int .i64 n1) rfl
  have p2 := hb6.cell (i := 2) (v := .int .i64 n2) rfl
  have p3 := hb6.cell (i := 3) (v := .int .i64 n3) rfl
  have p4 := hb6.cell (i := 4) (v := .slice a4 n c4) rfl
  have q0 := hc6.cell (i := 0) (v := .int .i64 0) rfl
  have q1 := hc6.cell (i := 1) (v := .int .i64 0) rfl
  have q2 := hc6.cell (i := 2) (v := .int .i64 0) rfl
  have q3 := hc6.cell (i := 3) (v := .int .i64 0) rfl
  have q4 := hc6.cell (i := 4) (v := .slice none 0 0) rfl
  have r0 := hc6.free 0
  have r1 := hc6.free 1
  have r2 := hc6.free 2
  have r3 := hc6.free 3
  have r4 := hc6.free 4
  replace hb6 := Lib.hid hb6
  replace hc6 := Lib.hid hc6
  go_wp2_with fail
  refine bodyPost_ret (v := .tuple #[.agg #[.int .i64 n0, .int .i64 n1, .int .i64 n2, .int .i64 n3, .slice a4 n c4], .nilIface]) ?_ rfl ⟨a4, c4, rfl, ?_⟩
  · refine (res_cell (b := w.heap.size) (t := 24) Tryd.results14 _ _ (hc6.out.set5 ?_ _ _ _ _ _) ?_ Tryd.underlying24 (by kernel_rfl)).trans ?_
    · rfl
    · simp
    · simp
  · have g46 : GrX [ab] w4 w6 := g5.gr g6
    have hge : ∀ x, a4 = some x → w3.heap.size ≤ x.block := ho4.out.2.2.2
    have gW6 : Gr w w6 := GrX.all gw3 ((g4.mono (T := [rb, ab]) (fun x hx => by simp at hx; simp [hx])).trans (g46.mono (fun x hx => by simp at hx; simp [hx]))) (fun x hx => by simp at hx; rcases hx with rfl | rfl <;> omega)
    have ho6 := (ho4.out.grx g46 (fun x hx => by have := hge x hx; simp; omega)).grx (((GrX.refl [w.heap.size] w6).set5 (b := w.heap.size) (by simp) (.int .i64 n0) (.int .i64 n1) (.int .i64 n2) (.int .i64 n3) (.slice a4 n c4))) (fun x hx => by have := hge x hx; simp; omega)
    have hL2 : (L.drop (k + j)).take n = L.drop (k + j) := List.take_of_length_le (by rw [List.length_drop]; have := he'.out; omega)
    rw [hL2] at ho6
    exact (ho6.older (W := w) (by omega)).own (gW6.set5 (Nat.le_refl _) _ _ _ _ _)
end Go.Proofs.YtlgbnjaoadlolaaDoor
