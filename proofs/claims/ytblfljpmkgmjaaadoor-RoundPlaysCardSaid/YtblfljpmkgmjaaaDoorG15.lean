/- almonerref09: SameOrder, Same, SameLedger where they are the same; a round that is done does not begin. -/
import Derived.Test.YtblfljpmkgmjaaaDoorG14
namespace Go.Proofs.YtblfljpmkgmjaaaDoor
open Go.RowKit
variable {K0 : Nat → Prop}

theorem tsk_cells {w : World} {a : Option Addr} {l : List Tsk} (h : RecsAt 4 Tsk.cells w a l) {i : Nat} {d : Tsk} (hd : l[i]? = some d) : ∃ b off, a = some ⟨b, off, none⟩ ∧ b < w.heap.size ∧ w.cell? ⟨b, off + i * 4, none⟩ = some (.int .i64 d.c) ∧ w.cell? ⟨b, off + i * 4 + 1, none⟩ = some (.int .i64 d.p) ∧ w.cell? ⟨b, off + i * 4 + 2, none⟩ = some (.int .i64 d.d) ∧ w.cell? ⟨b, off + i * 4 + 3, none⟩ = some (.int .i64 d.s) := by
  obtain ⟨b, off, ha, hb, hc⟩ := h i d hd
  exact ⟨b, off, ha, hb, hc 0 _ rfl, hc 1 _ rfl, hc 2 _ rfl, hc 3 _ rfl⟩

set_option maxRecDepth 100000 in
set_option maxHeartbeats 3200000 in
theorem sameOrder_eq (e : Ent) (a1 a2 : Option Addr) (c1 c2 : Nat) (w : World) (h1 : (⟨e, a1, c1⟩ : EntM).ok Any w) (h2 : (⟨e, a2, c2⟩ : EntM).ok Any w) :
    Calls Tryd.prog 59 #[.agg #[.int .i64 e.kd, .int .i64 e.id, .int .i64 e.srv.k, .int .i64 e.srv.q, .int .i64 e.srv.t, .int .i64 e.po, .slice a1 e.tasks.length c1, .int .i64 e.at_], .agg #[.int .i64 e.kd, .int .i64 e.id, .int .i64 e.srv.k, .int .i64 e.srv.q, .int .i64 e.srv.t, .int .i64 e.po, .slice a2 e.tasks.length c2, .int .i64 e.at_]] w fun x w' => x = .returned (.bool true) ∧ Gr w w' := by
  have hcap := ent_cap h1
  dsimp only at hcap
  go_enter Tryd.func59, Tryd.ntmps59
  go_wp2_with fail
  have gW := ((Gr.refl w).alloc (.cells #[.int .i64 e.kd, .int .i64 e.id, .int .i64 e.srv.k, .int .i64 e.srv.q, .int .i64 e.srv.t, .int .i64 e.po, .slice a1 e.tasks.length c1, .int .i64 e.at_] 34)).alloc (.cells #[.int .i64 e.kd, .int .i64 e.id, .int .i64 e.srv.k, .int .i64 e.srv.q, .int .i64 e.srv.t, .int .i64 e.po, .slice a2 e.tasks.length c2, .int .i64 e.at_] 34)
  go_loopw [51] (fun iv wr => ∃ k : Nat, k ≤ e.tasks.length ∧ iv = .int .i64 k ∧ Gr ((w.alloc (.cells #[.int .i64 e.kd, .int .i64 e.id, .int .i64 e.srv.k, .int .i64 e.srv.q, .int .i64 e.srv.t, .int .i64 e.po, .slice a1 e.tasks.length c1, .int .i64 e.at_] 34)).alloc (.cells #[.int .i64 e.kd, .int .i64 e.id, .int .i64 e.srv.k, .int .i64 e.srv.q, .int .i64 e.srv.t, .int .i64 e.po, .slice a2 e.tasks.length c2, .int .i64 e.at_] 34)) wr) (fun iv _ => e.tasks.length - (intOf iv).toNat)
  case atStart => exact ⟨0, Nat.zero_le _, rfl, Gr.refl _⟩
  case round =>
    obtain ⟨k, hk, rfl, hg⟩ := hrel
    obtain ⟨cg, fg, sg⟩ := hg.cells
    simp only [World.size_alloc] at cg fg sg
    have k1 := fun o => cg w.heap.size o (by omega)
    have k2 := fun o => cg (w.heap.size + 1) o (by omega)
    clear cg fg
    by_cases hlt : k < e.tasks.length
    · obtain ⟨d, hd⟩ := get_some e.tasks k hlt
      obtain ⟨b, off, hb0, hb, d0, d1, d2, d3⟩ := tsk_cells ((h1.gr gW).gr hg).1.1 hd
      obtain ⟨b', off', hb0', hb', d0', d1', d2', d3'⟩ := tsk_cells ((h2.gr gW).gr hg).1.1 hd
      dsimp only at hb0 hb0'
      subst hb0 hb0'
      replace hd := Lib.hid hd
      go_wp2_with fail
      go_quiet (fail)
      go_wp2_with fail
      go_roundw
      case rel => exact ⟨k + 1, by omega, by go_num, hg.drewN _⟩
      case measure => simp [intOf]; omega
    · go_wp2_with fail
      go_ret
      exact ⟨rfl, gW.trans hg⟩

set_option maxRecDepth 100000 in
set_option maxHeartbeats 3200000 in
theorem same_eq (e : Ent) (a1 a2 : Option Addr) (c1 c2 : Nat) (w : World) (h1 : (⟨e, a1, c1⟩ : EntM).ok Any w) (h2 : (⟨e, a2, c2⟩ : EntM).ok Any w) :
    Calls Tryd.prog 26 #[.agg (List.toArray (e.cells a1 c1)), .agg (List.toArray (e.cells a2 c2))] w fun x w' => x = .returned (.bool true) ∧ Gr w w' := by
  have gW := ((Gr.refl w).alloc (.cells #[.int .i64 e.cl, .int .i64 e.nu, .int .i64 e.kd, .int .i64 e.id, .int .i64 e.srv.k, .int .i64 e.srv.q, .int .i64 e.srv.t, .int .i64 e.po, .slice a1 e.tasks.length c1, .int .i64 e.at_] 36)).alloc (.cells #[.int .i64 e.cl, .int .i64 e.nu, .int .i64 e.kd, .int .i64 e.id, .int .i64 e.srv.k, .int .i64 e.srv.q, .int .i64 e.srv.t, .int .i64 e.po, .slice a2 e.tasks.length c2, .int .i64 e.at_] 36)
  have hso := sameOrder_eq e a1 a2 c1 c2 _ (h1.gr gW) (h2.gr gW)
  replace hso := Lib.hid hso
  clear h1 h2
  go_enter Tryd.func26, Tryd.ntmps26
  go_wp2_with fail
  refine hso.out.mono ?_
  rintro x w1 ⟨rfl, g1⟩
  go_wp2_with fail
  go_ret
  exact ⟨rfl, gW.trans g1⟩

set_option maxRecDepth 100000 in
set_option maxHeartbeats 3200000 in
theorem sameLedger_eq (a1 a2 : Option Addr) (c1 c2 : Nat) (L1 L2 : List EntM) (w : World) (h1 : LedM Any w a1 L1) (h2 : LedM Any w a2 L2) (he : L1.map (·.e) = L2.map (·.e)) (hm : L1.length ≤ maxLen) :
    Calls Tryd.prog 21 #[.slice a1 L1.length c1, .slice a2 L2.length c2] w fun x w' => x = .returned (.bool true) ∧ Gr w w' := by
  have hlen : L2.length = L1.length := by simpa using (congrArg List.length he).symm
  have hsm := fun e a1 a2 c1 c2 (w' : World) h1 h2 => same_eq e a1 a2 c1 c2 w' h1 h2
  replace hsm := Lib.hid hsm
  rw [hlen]
  replace hlen := Lib.hid hlen
  replace he := Lib.hid he
  unfold maxLen at hm
  go_enter Tryd.func21, Tryd.ntmps21
  go_wp2_with fail
  go_loopw [13] (fun iv wr => ∃ k : Nat, k ≤ L1.length ∧ iv = .int .i64 k ∧ Gr w wr) (fun iv _ => L1.length - (intOf iv).toNat)
  case atStart => exact ⟨0, Nat.zero_le _, rfl, Gr.refl _⟩
  case round =>
    obtain ⟨k, hk, rfl, hg⟩ := hrel
    by_cases hlt : k < L1.length
    · obtain ⟨x, hx⟩ := get_some L1 k hlt
      obtain ⟨y, hy⟩ := get_some L2 k (by rw [hlen.out]; exact hlt)
      have hxy : y.e = x.e := by
        have e1 : (L1.map (·.e))[k]? = some x.e := by simp [hx]
        have e2 : (L2.map (·.e))[k]? = some y.e := by simp [hy]
        rw [he.out, e2] at e1
        exact Option.some.inj e1
      obtain ⟨y, a4, c4⟩ := y
      dsimp only at hxy
      subst hxy
      obtain ⟨b, off, rfl, hb, _, d0, d1, d2, d3, d4, d5, d6, d7, d8, d9⟩ := (h1.gr hg).get hx
      obtain ⟨b', off', rfl, hb', _, e0, e1, e2, e3, e4, e5, e6, e7, e8, e9⟩ := (h2.gr hg).get hy
      have o1 := (h1.gr hg).2 x (get_mem hx)
      have o2 := (h2.gr hg).2 _ (get_mem hy)
      dsimp only at e0 e1 e2 e3 e4 e5 e6 e7 e8 e9
      have q0 := GrW.cell d0
      have q1 := GrW.cell d1
      have q2 := GrW.cell d2
      have q3 := GrW.cell d3
      have q4 := GrW.cell d4
      have q5 := GrW.cell d5
      have q6 := GrW.cell d6
      have q7 := GrW.cell d7
      have q8 := GrW.cell d8
      have q9 := GrW.cell d9
      have p0 := GrW.cell e0
      have p1 := GrW.cell e1
      have p2 := GrW.cell e2
      have p3 := GrW.cell e3
      have p4 := GrW.cell e4
      have p5 := GrW.cell e5
      have p6 := GrW.cell e6
      have p7 := GrW.cell e7
      have p8 := GrW.cell e8
      have p9 := GrW.cell e9
      replace hx := Lib.hid hx
      replace hy := Lib.hid hy
      go_wp2_with fail
      refine wp_region_grows (by kernel_rfl) (by kernel_rfl) ?_
      repeat (any_goals (first | go_big_quiet_step (first | (exact Calls.grows (hsm.out x.e x.a a4 x.c c4 _ (o1.gr (by exact GrW.gr _)) (o2.gr (by exact GrW.gr _))))) | quiet_step (first | (exact Calls.grows (hsm.out x.e x.a a4 x.c c4 _ (o1.gr (by exact GrW.gr _)) (o2.gr (by exact GrW.gr _)))))))
      refine wpQuiet_nil ?_
      intro wp hwq
      have gp := GrW.of hwq
      clear hwq
      obtain ⟨cp, fp, sp⟩ := gp.cells
      try simp only [size_drewN] at cp fp sp
      try simp only [World.size_alloc] at cp fp sp
      try simp only [World.size_drew] at cp fp sp
      try simp only [World.size_setCell] at cp fp sp
      clear q0 q1 q2 q3 q4 q5 q6 q7 q8 q9 p0 p1 p2 p3 p4 p5 p6 p7 p8 p9
      go_wp2_with fail
      go_roundw
      case rel => exact ⟨k + 1, by omega, by go_num, hg.trans gp⟩
      case measure => simp [intOf]; omega
    · go_wp2_with fail
      go_ret
      exact ⟨rfl, hg⟩

set_option maxRecDepth 100000 in
set_option maxHeartbeats 1600000 in
theorem begin_state {G : List Nat} {E : Nat → Addr} (R : Rnd) (b : Bal) (w : World) (rb ab : Nat) (hE : EAt G E w) (i0 : 0 ∈ G) (h : RndAt K0 w rb ab R) (hs : 3 ≤ R.st) :
    Calls Tryd.prog 14 #[.pointer (some ⟨rb, 0, none⟩), .agg #[.int .i64 b.r, .int .i64 b.n]] w fun e w' => e = .returned (Value.iface 194 (.pointer (some (E 0)))) ∧ Gr w w' := by
  have z0 := h.o.lt
  have c14 : w.cell? ⟨rb, 14, none⟩ = some (.int .i64 R.st) := h.o.cell rfl
  have e0 := (hE.gr ((Gr.refl w).alloc (.cells #[.int .i64 b.r, .int .i64 b.n] 39))).c0 i0
  clear h
  go_enter Tryd.func14, Tryd.ntmps14
  go_wp2_with fail
  go_ret
  exact ⟨rfl, (Gr.refl w).alloc _⟩
end Go.Proofs.YtblfljpmkgmjaaaDoor
