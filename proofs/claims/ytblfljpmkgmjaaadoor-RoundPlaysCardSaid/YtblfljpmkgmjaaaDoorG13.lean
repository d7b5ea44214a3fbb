/- A round: New. -/
import Derived.Test.YtblfljpmkgmjaaaDoorG12
import Derived.Deep.OwnRows
namespace Go.Proofs.YtblfljpmkgmjaaaDoor
open Go.RowKit

theorem Tryd.infoBoo : (Tryd.prog.info? 4).map (fun i => (i.zero, i.size, i.bytes)) = some (some (.bool false), 1, 1) := by kernel_rfl
theorem made_false (n : Nat) : madeCells #[.bool false] n = ((List.replicate n false).map Value.bool).toArray := by
  apply Array.ext
  · simp [madeCells]
  · intro i h1 h2
    have h3 : i < n := by simpa [madeCells] using h1
    simp [madeCells, Nat.mod_one]

def RndV.new (n : Nat) (x : Ent) (reads : Bool) : RndV := ⟨List.replicate n false, x, reads, ⟨0, 0⟩, 0, ⟨0, 0⟩, [], 0⟩
/-- A new round. -/
def NewRnd (n : Nat) (x : Ent) (reads : Bool) (w : World) (e : Ending) (w' : World) : Prop :=
  ∃ rb ab R, e = .returned (.tuple #[.pointer (some ⟨rb, 0, none⟩), .nilIface]) ∧ RndAt (fun b => w.heap.size ≤ b) w' rb ab R ∧ R.v = RndV.new n x reads ∧ w.heap.size ≤ rb ∧ w.heap.size ≤ ab ∧ Gr w w'

abbrev Rnd.new (n : Nat) (x : EntM) (reads : Bool) : Rnd := ⟨List.replicate n false, x, reads, ⟨0, 0⟩, 0, ⟨0, 0⟩, none, 0, [], 0⟩
theorem new_at {K0 : Nat → Prop} (n m : Nat) (x : EntM) (reads : Bool) (W : World) (hm : W.heap.size = m) (hx : x.ok K0 W) (h1 : 1 ≤ n) (h7 : n ≤ 7) :
    RndAt K0 ((W.alloc (.cells (Array.replicate n (.bool false)) 4)).alloc (.cells #[.slice (some ⟨m, 0, none⟩) n n, .int .i64 x.e.cl, .int .i64 x.e.nu, .int .i64 x.e.kd, .int .i64 x.e.id, .int .i64 x.e.srv.k, .int .i64 x.e.srv.q, .int .i64 x.e.srv.t, .int .i64 x.e.po, .slice x.a x.e.tasks.length x.c, .int .i64 x.e.at_, .bool reads, .int .i64 0, .int .i64 0, .int .i64 0, .int .i64 0, .int .i64 0, .slice none 0 0, .int .i64 0] 103)).drew (m + 1) m (Rnd.new n x reads) := by
  subst hm
  have hb : Blk (W.alloc (.cells (Array.replicate n (.bool false)) 4)) W.heap.size (((Rnd.new n x reads).an.map Value.bool).toArray) 4 := by
    have := Blk.new W (Array.replicate n (.bool false)) 4
    simpa using this
  have ho : Blk ((W.alloc (.cells (Array.replicate n (.bool false)) 4)).alloc (.cells ((Rnd.new n x reads).row W.heap.size) 103)) (W.heap.size + 1) ((Rnd.new n x reads).row W.heap.size) 103 := by
    have := Blk.new (W.alloc (.cells (Array.replicate n (.bool false)) 4)) ((Rnd.new n x reads).row W.heap.size) 103
    rwa [World.size_alloc] at this
  have hl : (List.replicate n false).length = n := by simp
  refine ⟨?_, ((hb.alloc _).drew), by omega, by simp; omega, ((hx.mono (fun b hb hk => ⟨by omega, by omega, hk⟩)).gr (((Gr.refl W).alloc _).alloc _)).gr ((Gr.refl _).drew), LedM.nil _ _ _, (fun _ => rfl), by simp⟩
  have h2 := ho.drew
  rw [show (Rnd.new n x reads).row W.heap.size = #[.slice (some ⟨W.heap.size, 0, none⟩) n n, .int .i64 x.e.cl, .int .i64 x.e.nu, .int .i64 x.e.kd, .int .i64 x.e.id, .int .i64 x.e.srv.k, .int .i64 x.e.srv.q, .int .i64 x.e.srv.t, .int .i64 x.e.po, .slice x.a x.e.tasks.length x.c, .int .i64 x.e.at_, .bool reads, .int .i64 0, .int .i64 0, .int .i64 0, .int .i64 0, .int .i64 0, .slice none 0 0, .int .i64 0] by simp [Rnd.row]] at h2 ⊢
  exact h2

set_option maxRecDepth 100000 in
set_option maxHeartbeats 3200000 in
theorem new_any (n : Nat) (x : EntM) (reads : Bool) (w : World) (hx : x.ok Any w) (h1 : 1 ≤ n) (h7 : n ≤ 7)
    (hck : reads = false → Calls Tryd.prog 48 #[.agg #[.int .i64 x.e.cl, .int .i64 x.e.nu, .int .i64 x.e.kd, .int .i64 x.e.id, .int .i64 x.e.srv.k, .int .i64 x.e.srv.q, .int .i64 x.e.srv.t, .int .i64 x.e.po, .slice x.a x.e.tasks.length x.c, .int .i64 x.e.at_]] (w.alloc x.obj) fun e w' => e = .returned .nilIface ∧ Gr (w.alloc x.obj) w') :
    Calls Tryd.prog 12 #[.int .i64 n, .agg #[.int .i64 x.e.cl, .int .i64 x.e.nu, .int .i64 x.e.kd, .int .i64 x.e.id, .int .i64 x.e.srv.k, .int .i64 x.e.srv.q, .int .i64 x.e.srv.t, .int .i64 x.e.po, .slice x.a x.e.tasks.length x.c, .int .i64 x.e.at_], .bool reads] w (NewRnd n x.e reads w) := by
  have hmk := run_make_row' (P := Tryd.prog) 52 4 (.bool false) 1 Tryd.underlying52 Tryd.infoBoo rfl .i64 .i64 n (by omega) (by omega)
  rw [made_false] at hmk
  have hxm := ent_cap hx
  cases reads with
  | true =>
    go_enter Tryd.func12, Tryd.ntmps12
    go_wp2_with fail
    refine (clone_any x.a x.c x.e.tasks _ (hx.gr ((Gr.refl w).alloc x.obj)).1.1 hx.2.1 hxm).mono ?_
    rintro e w1 ⟨a1, d1, rfl, r1, m1, q1, q2, g1⟩
    obtain ⟨k1, j1, s1⟩ := g1.cells
    simp only [World.size_alloc] at k1 j1 s1
    have z1 : w.heap.size < w1.heap.size := by omega
    have kk := fun o => k1 w.heap.size o (by omega)
    have jj := fun o => j1 w.heap.size o (by omega)
    clear k1 j1
    have hxo : (⟨x.e, a1, d1⟩ : EntM).ok (fun b => w.heap.size ≤ b) (w1.setCell ⟨w.heap.size, 8, none⟩ (.slice a1 x.e.tasks.length d1)) := by
      refine ⟨?_, m1, q1, q2, hxm⟩
      have r2 := r1.grx (T := [w.heap.size]) ((GrX.refl [w.heap.size] w1).set (p := ⟨w.heap.size, 8, none⟩) (.inl (by simp)) (.slice a1 x.e.tasks.length d1)) (fun y hy => by rw [List.mem_singleton.1 hy]; simp)
      exact r2.mono (fun b _ hb => by first | (simp at hb; omega) | omega)
    have hend := new_at n w1.heap.size ⟨x.e, a1, d1⟩ true _ (by simp) hxo h1 h7
    have hge := ((((((Gr.refl w).alloc x.obj).trans g1).setCell (p := ⟨w.heap.size, 8, none⟩) (Nat.le_refl _) (.slice a1 x.e.tasks.length d1)).alloc (.cells (Array.replicate n (.bool false)) 4)).alloc (.cells #[.slice (some ⟨w1.heap.size, 0, none⟩) n n, .int .i64 x.e.cl, .int .i64 x.e.nu, .int .i64 x.e.kd, .int .i64 x.e.id, .int .i64 x.e.srv.k, .int .i64 x.e.srv.q, .int .i64 x.e.srv.t, .int .i64 x.e.po, .slice a1 x.e.tasks.length d1, .int .i64 x.e.at_, .bool true, .int .i64 0, .int .i64 0, .int .i64 0, .int .i64 0, .int .i64 0, .slice none 0 0, .int .i64 0] 103)).drew
    replace hend := Lib.hid hend
    replace hge := Lib.hid hge
    clear hxo r1 m1
    go_wp2_with fail
    go_region
    go_wp2_with fail
    go_ret2
    exact ⟨_, _, _, rfl, hend.out, rfl, by omega, by omega, hge.out⟩
  | false =>
    have hc := hck rfl
    replace hc := Lib.hid hc
    go_enter Tryd.func12, Tryd.ntmps12
    go_wp2_with fail
    refine hc.out.mono ?_
    rintro e w0 ⟨rfl, g0⟩
    obtain ⟨k0, j0, s0⟩ := g0.cells
    simp only [World.size_alloc] at k0 j0 s0
    have z0 : w.heap.size < w0.heap.size := by omega
    have kk0 := fun o => k0 w.heap.size o (by omega)
    have jj0 := fun o => j0 w.heap.size o (by omega)
    have hx0 := (hx.gr ((Gr.refl w).alloc x.obj)).gr g0
    have gg : Gr w w0 := ((Gr.refl w).alloc x.obj).trans g0
    clear k0 j0 g0
    go_wp2_with fail
    refine (clone_any x.a x.c x.e.tasks _ hx0.1.1 hx0.2.1 hxm).mono ?_
    rintro e w1 ⟨a1, d1, rfl, r1, m1, q1, q2, g1⟩
    obtain ⟨k1, j1, s1⟩ := g1.cells
    have z1 : w.heap.size < w1.heap.size := by omega
    have kk := fun o => k1 w.heap.size o (by omega)
    have jj := fun o => j1 w.heap.size o (by omega)
    clear k1 j1
    have hxo : (⟨x.e, a1, d1⟩ : EntM).ok (fun b => w.heap.size ≤ b) (w1.setCell ⟨w.heap.size, 8, none⟩ (.slice a1 x.e.tasks.length d1)) := by
      refine ⟨?_, m1, q1, q2, hxm⟩
      have r2 := r1.grx (T := [w.heap.size]) ((GrX.refl [w.heap.size] w1).set (p := ⟨w.heap.size, 8, none⟩) (.inl (by simp)) (.slice a1 x.e.tasks.length d1)) (fun y hy => by rw [List.mem_singleton.1 hy]; omega)
      exact r2.mono (fun b _ hb => by first | (simp at hb; omega) | omega)
    have hend := new_at n w1.heap.size ⟨x.e, a1, d1⟩ false _ (by simp) hxo h1 h7
    have hge := ((((gg.trans g1).setCell (p := ⟨w.heap.size, 8, none⟩) (Nat.le_refl _) (.slice a1 x.e.tasks.length d1)).alloc (.cells (Array.replicate n (.bool false)) 4)).alloc (.cells #[.slice (some ⟨w1.heap.size, 0, none⟩) n n, .int .i64 x.e.cl, .int .i64 x.e.nu, .int .i64 x.e.kd, .int .i64 x.e.id, .int .i64 x.e.srv.k, .int .i64 x.e.srv.q, .int .i64 x.e.srv.t, .int .i64 x.e.po, .slice a1 x.e.tasks.length d1, .int .i64 x.e.at_, .bool false, .int .i64 0, .int .i64 0, .int .i64 0, .int .i64 0, .int .i64 0, .slice none 0 0, .int .i64 0] 103)).drew
    replace hend := Lib.hid hend
    replace hge := Lib.hid hge
    clear hxo r1 m1
    go_wp2_with fail
    go_region
    go_wp2_with fail
    go_ret2
    exact ⟨_, _, _, rfl, hend.out, rfl, by omega, by omega, hge.out⟩
end Go.Proofs.YtblfljpmkgmjaaaDoor
