/- DeskReplies: the walk. Printed by gen_p29.py. -/
import Derived.Test.YtlgbnjaoadlolaaDoorP28
import Derived.Deep.RegionHeld3
namespace Go.Proofs.YtlgbnjaoadlolaaDoor
open Go.RowKit

theorem Own.cmax {W w : World} {x : Addr} {c : Nat} {l : List UInt8} (h : Own W w (some x) c l) : c ≤ maxLen := by
  rcases h.1.2 with hn | ⟨g, cap, cur, hv, hg, hh, hn, hm, _⟩
  · cases hn.1
  · cases hv; exact hm
theorem listB_nat (l : List Int) : listB l = (l.map Int.toNat).flatMap numB := by
  unfold listB
  rw [List.flatMap_map]
set_option maxHeartbeats 1600000 in
/-- An answer's frame is read back. -/
theorem getReply_frame {G : List Nat} {E : Nat → Addr} (w : World) (hE : EAt G E w) (i1 : 1 ∈ G) (b c : Nat) (r : Rep) (hf : repF r = true) (hS : BytesAt w (some ⟨b, 0, none⟩) (frameB (repB r))) (hc : (frameB (repB r)).length ≤ c) :
    Calls Tryd.prog 14 #[.slice (some ⟨b, 0, none⟩) (frameB (repB r)).length c] w fun e w' => ∃ a' c', e = .returned (.tuple #[.agg #[.int .i64 r.cl, .int .i64 r.nu, .int .i64 r.co, .int .i64 r.id, .slice a' r.tree.length c'], .nilIface]) ∧ Own w w' a' c' r.tree := by
  obtain ⟨l1, l2, l3⟩ := repB_len hf
  have hhd : Nums (repN r) := okN_nums (by unfold repF at hf; rw [Bool.and_eq_true] at hf; exact hf.1)
  have q0 := hhd r.cl (by simp [repN])
  have q1 := hhd r.nu (by simp [repN])
  have q2 := hhd r.co (by simp [repN])
  have q3 := hhd r.id (by simp [repN])
  have hB : repB r = listB (repN r) ++ (numB r.tree.length ++ r.tree) := rfl
  have hn : numsR 4 (repB r) = some ([r.cl.toNat, r.nu.toNat, r.co.toNat, r.id.toNat], (listB (repN r)).length) := by
    rw [hB, listB_nat]
    exact numsR_put [r.cl.toNat, r.nu.toNat, r.co.toNat, r.id.toNat] _ (fun n hn => by
      simp only [List.mem_cons, List.not_mem_nil, or_false] at hn
      rcases hn with rfl | rfl | rfl | rfl <;> omega)
  have hd : (repB r).drop (listB (repN r)).length = numB r.tree.length ++ r.tree := by rw [hB]; exact List.drop_left
  have hq : numR ((repB r).drop (listB (repN r)).length) = some (r.tree.length, (numB r.tree.length).length) := by
    rw [hd]; exact numR_put (by omega) _
  have hl : (listB (repN r)).length + (numB r.tree.length).length + r.tree.length = (repB r).length := by rw [hB]; simp only [List.length_append]; omega
  have hd2 : (repB r).drop ((listB (repN r)).length + (numB r.tree.length).length) = r.tree := by
    rw [← List.drop_drop, hd]; exact List.drop_left
  refine (getReply_yes w hE i1 b 0 c (repB r) hS (by omega) hc _ _ _ _ _ _ _ hn hq l3 hl).mono ?_
  rintro e w' ⟨a', c', rfl, ho⟩
  rw [hd2] at ho
  refine ⟨a', c', ?_, ho⟩
  rw [show ((r.cl.toNat : Nat) : Int) = r.cl by omega, show ((r.nu.toNat : Nat) : Int) = r.nu by omega, show ((r.co.toNat : Nat) : Int) = r.co by omega, show ((r.id.toNat : Nat) : Int) = r.id by omega]
set_option maxRecDepth 100000 in
set_option maxHeartbeats 6400000 in
theorem replies_any {G : List Nat} {E : Nat → Addr} (w : World) (hE : EAt G E w) (i0 : 0 ∈ G) (i1 : 1 ∈ G) (r : Rep) (a : Option Addr) (c : Nat) (hB : BytesAt w a r.tree) (hcn : a = none → c = 0) (hl : r.tree.length ≤ 140737488351232) (k0 : Int) (y : EntM) (code : Int) :
    Calls Tryd.prog 3 #[.agg #[.int .i64 r.cl, .int .i64 r.nu, .int .i64 r.co, .int .i64 r.id, .slice a r.tree.length c], .agg #[.int .i64 k0, .int .i64 y.e.cl, .int .i64 y.e.nu, .int .i64 y.e.kd, .int .i64 y.e.id, .int .i64 y.e.srv.k, .int .i64 y.e.srv.q, .int .i64 y.e.srv.t, .int .i64 y.e.po, .slice y.a y.e.tasks.length y.c, .int .i64 y.e.at_], .int .i64 code] w fun e w' => e = .returned (.bool true) ∧ Gr w w' := by
  have heq0 := fun w => eql_same E 0 w
  have hN := fun w1 (g : Gr w w1) => nBytes_any w1 a c r.tree (hB.gr g) hcn hl
  replace hN := Lib.hid hN
  go_enter Tryd.func3, Tryd.ntmps3
  go_wp2_with fail
  refine (alive20_any _ (hE.gr (((Gr.refl w).alloc _).alloc _)) i0).mono ?_
  rintro e wa ⟨rfl, ga⟩
  obtain ⟨ca, fa, sa⟩ := ga.cells
  try simp only [size_drewN] at ca fa sa
  try simp only [World.size_alloc] at ca fa sa
  try simp only [World.size_drew] at ca fa sa
  try simp only [World.size_setCell] at ca fa sa
  have za0 : w.heap.size < wa.heap.size := by omega
  have ya0 : w.heap.size ≤ wa.heap.size := by omega
  have ka0 := fun o => ca (w.heap.size) o (by omega)
  have ja0 := fun o => fa (w.heap.size) o (by omega)
  have za1 : w.heap.size + 1 < wa.heap.size := by omega
  have ka1 := fun o => ca (w.heap.size + 1) o (by omega)
  have ja1 := fun o => fa (w.heap.size + 1) o (by omega)
  have gwa : Gr w wa := (((Gr.refl w).alloc _).alloc _).trans ga
  have hX0 : Blk wa w.heap.size #[.int .i64 r.cl, .int .i64 r.nu, .int .i64 r.co, .int .i64 r.id, .slice a r.tree.length c] 24 := ((Blk.new w _ _).alloc _).gr ga
  have hA0 : Blk wa (w.heap.size + 1) #[.int .i64 k0, .int .i64 y.e.cl, .int .i64 y.e.nu, .int .i64 y.e.kd, .int .i64 y.e.id, .int .i64 y.e.srv.k, .int .i64 y.e.srv.q, .int .i64 y.e.srv.t, .int .i64 y.e.po, .slice y.a y.e.tasks.length y.c, .int .i64 y.e.at_] 31 := (Blk.new1 (by simp)).gr ga
  have x0 := hX0.cell (i := 0) (v := .int .i64 r.cl) rfl
  have x1 := hX0.cell (i := 1) (v := .int .i64 r.nu) rfl
  have x2 := hX0.cell (i := 2) (v := .int .i64 r.co) rfl
  have x3 := hX0.cell (i := 3) (v := .int .i64 r.id) rfl
  have x4 := hX0.cell (i := 4) (v := .slice a r.tree.length c) rfl
  have zx := hX0.lt
  have zA := hA0.lt
  replace hX0 := Lib.hid hX0
  replace hA0 := Lib.hid hA0
  go_upto_region 4 with fail
  go_wp2_with fail
  refine (hN.out _ (gwa.alloc _)).mono ?_
  rintro e w4 ⟨g, c4, rfl, ho4, hc4⟩
  have g4 := ho4.2.2.2.2
  have gw4 : Gr w w4 := (gwa.alloc _).trans g4
  have hI4 : Blk w4 wa.heap.size #[.int .i64 r.cl, .int .i64 r.nu, .int .i64 r.co, .int .i64 r.id, .slice a r.tree.length c] 24 := (Blk.new wa _ _).gr g4
  have ei4 := hI4.cell (i := 4) (v := .slice a r.tree.length c) rfl
  have fi4 := hI4.free 4
  have zi4 := hI4.lt
  obtain ⟨w5, hw5⟩ : ∃ w5, w5 = w4.setCell ⟨wa.heap.size, 4, none⟩ (.slice (some ⟨g, 0, none⟩) r.tree.length c4) := ⟨_, rfl⟩
  have hI5 : Blk w5 wa.heap.size #[.int .i64 r.cl, .int .i64 r.nu, .int .i64 r.co, .int .i64 r.id, .slice (some ⟨g, 0, none⟩) r.tree.length c4] 24 := by rw [hw5]; exact hI4.set 4 _
  have gw5 : Gr w w5 := by rw [hw5]; exact gw4.setCell (p := ⟨wa.heap.size, 4, none⟩) (by have := gwa.size; show w.heap.size ≤ wa.heap.size; omega) _
  have g45 : GrX [wa.heap.size] w4 w5 := by rw [hw5]; exact (GrX.refl _ _).set (.inl (by simp)) _
  have hg4 : g ≠ wa.heap.size := fun e => by have := ho4.2.2.2.1 ⟨g, 0, none⟩ rfl; simp at this; omega
  have hM5 : BytesAt w5 (some ⟨g, 0, none⟩) (r.tree ++ marks) := ho4.2.1.grx g45 (fun x hx _ => by cases hx; simpa using hg4)
  have hT5 : BytesAt w5 (some ⟨g, 0, none⟩) r.tree := by
    have := hM5.take r.tree.length
    rwa [List.take_left] at this
  have hgl : g < w5.heap.size := by
    have h1 : g < w4.heap.size := ho4.lt (x := ⟨g, 0, none⟩) rfl
    have := g45.size
    omega
  have hcm : c4 ≤ maxLen := ho4.cmax
  have hX5 : Blk w5 w.heap.size #[.int .i64 r.cl, .int .i64 r.nu, .int .i64 r.co, .int .i64 r.id, .slice a r.tree.length c] 24 := ((hX0.out.gr ((Gr.refl wa).alloc _)).gr g4).grx g45 (by simp; omega)
  have hA5 : Blk w5 (w.heap.size + 1) #[.int .i64 k0, .int .i64 y.e.cl, .int .i64 y.e.nu, .int .i64 y.e.kd, .int .i64 y.e.id, .int .i64 y.e.srv.k, .int .i64 y.e.srv.q, .int .i64 y.e.srv.t, .int .i64 y.e.po, .slice y.a y.e.tasks.length y.c, .int .i64 y.e.at_] 31 := ((hA0.out.gr ((Gr.refl wa).alloc _)).gr g4).grx g45 (by simp; omega)
  have hB5 := hB.gr gw5
  have p0 := hI5.cell (i := 0) (v := .int .i64 r.cl) rfl
  have p1 := hI5.cell (i := 1) (v := .int .i64 r.nu) rfl
  have p2 := hI5.cell (i := 2) (v := .int .i64 r.co) rfl
  have p3 := hI5.cell (i := 3) (v := .int .i64 r.id) rfl
  have p4 := hI5.cell (i := 4) (v := .slice (some ⟨g, 0, none⟩) r.tree.length c4) rfl
  replace hI5 := Lib.hid hI5
  replace hX5 := Lib.hid hX5
  replace hA5 := Lib.hid hA5
  replace hM5 := Lib.hid hM5
  replace hT5 := Lib.hid hT5
  replace hB5 := Lib.hid hB5
  replace hw5 := Lib.hid hw5
  replace ho4 := Lib.hid ho4
  replace hI4 := Lib.hid hI4
  replace hB := Lib.hid hB
  go_upto_region 5 with fail
  rw [← hw5.out]
  cases hf : repF r with
  | false =>
    have hp := putReply_no w5 (hE.gr gw5) i0 r (some ⟨g, 0, none⟩) c4 hf
    replace hp := Lib.hid hp
    go_wp2_with fail
    refine hp.out.mono ?_
    rintro e w6 ⟨rfl, g6⟩
    have g56 := g6
    have gw6 : Gr w w6 := gw5.trans g6
    have hX6 := hX5.out.gr g6
    have hA6 := hA5.out.gr g6
    have hI6 := hI5.out.gr g6
    have hM6 := hM5.out.gr g6
    have hB6 := hB5.out.gr g6
    have hkp : ∀ x : GrW w6, Calls Tryd.prog 10 #[.slice (some ⟨g, 0, none⟩) r.tree.length c4, .slice a r.tree.length c] x.to fun e w' => e = .returned (.bool true) ∧ Gr x.to w' := fun x => kept_yes x.to g c4 r.tree a c (hM6.gr x.gr) hc4 hcm (hB6.gr x.gr) hl
    have hrf := fun x : GrW w6 => refuse_any k0 y code x.to
    have hsr : ∀ x : GrW w6, Calls Tryd.prog 11 #[.agg #[.int .i64 y.e.cl, .int .i64 y.e.nu, .int .i64 code, .int .i64 0, .slice none 0 0], .agg #[.int .i64 y.e.cl, .int .i64 y.e.nu, .int .i64 code, .int .i64 0, .slice none 0 0]] x.to fun e w' => e = .returned (.bool true) ∧ Gr x.to w' := fun x => rSameReply_yes x.to ⟨y.e.cl, y.e.nu, code, 0, []⟩ none none 0 0 (fun i s h => by simp at h) (fun i s h => by simp at h)
    have qx0 := GrW.cell (hX6.cell (i := 0) (v := .int .i64 r.cl) rfl)
    have qx1 := GrW.cell (hX6.cell (i := 1) (v := .int .i64 r.nu) rfl)
    have qx2 := GrW.cell (hX6.cell (i := 2) (v := .int .i64 r.co) rfl)
    have qx3 := GrW.cell (hX6.cell (i := 3) (v := .int .i64 r.id) rfl)
    have qx4 := GrW.cell (hX6.cell (i := 4) (v := .slice a r.tree.length c) rfl)
    have qa0 := GrW.cell (hA6.cell (i := 0) (v := .int .i64 k0) rfl)
    have qa1 := GrW.cell (hA6.cell (i := 1) (v := .int .i64 y.e.cl) rfl)
    have qa2 := GrW.cell (hA6.cell (i := 2) (v := .int .i64 y.e.nu) rfl)
    have qa3 := GrW.cell (hA6.cell (i := 3) (v := .int .i64 y.e.kd) rfl)
    have qa4 := GrW.cell (hA6.cell (i := 4) (v := .int .i64 y.e.id) rfl)
    have qa5 := GrW.cell (hA6.cell (i := 5) (v := .int .i64 y.e.srv.k) rfl)
    have qa6 := GrW.cell (hA6.cell (i := 6) (v := .int .i64 y.e.srv.q) rfl)
    have qa7 := GrW.cell (hA6.cell (i := 7) (v := .int .i64 y.e.srv.t) rfl)
    have qa8 := GrW.cell (hA6.cell (i := 8) (v := .int .i64 y.e.po) rfl)
    have qa9 := GrW.cell (hA6.cell (i := 9) (v := .slice y.a y.e.tasks.length y.c) rfl)
    have qa10 := GrW.cell (hA6.cell (i := 10) (v := .int .i64 y.e.at_) rfl)
    have qi0 := GrW.cell (hI6.cell (i := 0) (v := .int .i64 r.cl) rfl)
    have qi1 := GrW.cell (hI6.cell (i := 1) (v := .int .i64 r.nu) rfl)
    have qi2 := GrW.cell (hI6.cell (i := 2) (v := .int .i64 r.co) rfl)
    have qi3 := GrW.cell (hI6.cell (i := 3) (v := .int .i64 r.id) rfl)
    have qi4 := GrW.cell (hI6.cell (i := 4) (v := .slice (some ⟨g, 0, none⟩) r.tree.length c4) rfl)
    replace hkp := Lib.hid hkp
    replace hrf := Lib.hid hrf
    replace hsr := Lib.hid hsr
    replace hX6 := Lib.hid hX6
    replace hA6 := Lib.hid hA6
    replace hI6 := Lib.hid hI6
    replace hM6 := Lib.hid hM6
    replace hB6 := Lib.hid hB6
    go_upto_region 6 with fail
    refine wp_region_grows (by kernel_rfl) (by kernel_rfl) ?_
    repeat (any_goals (first | go_big_quiet_step (first | (exact Calls.grows (hkp.out _)) | (exact Calls.grows (hrf.out _)) | (exact Calls.grows (hsr.out _)) | fail) | quiet_step (first | (exact Calls.grows (hkp.out _)) | (exact Calls.grows (hrf.out _)) | (exact Calls.grows (hsr.out _)) | fail)))
    refine wpQuiet_nil ?_
    intro wz hwq
    have gz := GrW.of hwq
    clear hwq
    obtain ⟨cz, fz, sz⟩ := gz.cells
    try simp only [size_drewN] at cz fz sz
    try simp only [World.size_alloc] at cz fz sz
    try simp only [World.size_drew] at cz fz sz
    try simp only [World.size_setCell] at cz fz sz
    clear cz fz
    have hX7 := hX6.out.gr gz
    have h8 := rInForm_any wz r a c
    rw [hf] at h8
    replace h8 := Lib.hid h8
    have y0 := hX7.cell (i := 0) (v := .int .i64 r.cl) rfl
    have y1 := hX7.cell (i := 1) (v := .int .i64 r.nu) rfl
    have y2 := hX7.cell (i := 2) (v := .int .i64 r.co) rfl
    have y3 := hX7.cell (i := 3) (v := .int .i64 r.id) rfl
    have y4 := hX7.cell (i := 4) (v := .slice a r.tree.length c) rfl
    replace hX7 := Lib.hid hX7
    go_wp2_with fail
    refine h8.out.mono ?_
    rintro e w8 ⟨rfl, g8⟩
    have he := (hE.gr (((gw5.trans g6).trans gz).trans g8)).c0 i0
    go_wp2_with fail
    go_ret
    exact ⟨rfl, (((gw5.trans g6).trans gz).trans g8)⟩
  | true =>
    have hp := putReply_yes w5 (hE.gr gw5) i0 r (some ⟨g, 0, none⟩) c4 hf hT5.out (fun h => by cases h) (fun x hx => by cases hx; exact hgl)
    have hfl := frameB_len (repB r)
    obtain ⟨l1, l2, l3⟩ := repB_len hf
    have hrl : (repB r).length ≤ 20000 := by show (listB (repN r) ++ (numB r.tree.length ++ r.tree)).length ≤ _; simp only [List.length_append]; omega
    have hgr := fun w1 (g : Gr w w1) b c hS hc => getReply_frame w1 (hE.gr g) i1 b c r hf hS hc
    have hrp := fun w1 (g : Gr w w1) => rPutReply_any w1 r a c hf (hB.out.gr g) hcn
    obtain ⟨F, hF⟩ : ∃ F, F = frameB (repB r) := ⟨_, rfl⟩
    rw [← hF] at hp hfl
    simp only [← hF] at hgr hrp
    have hFl : F.length ≤ 30000 := by omega
    have hFne : F ≠ [] := by intro e; rw [e] at hfl; simp at hfl
    replace hF := Lib.hid hF
    replace hp := Lib.hid hp
    replace hgr := Lib.hid hgr
    replace hrp := Lib.hid hrp
    replace hfl := Lib.hid hfl
    replace hFne := Lib.hid hFne
    go_wp2_with fail
    refine hp.out.mono ?_
    rintro e w6 ⟨a6, c6, rfl, ho6⟩
    obtain ⟨g6b, e6, hg61, hg62, -, hc6⟩ := ho6.block hFne.out
    subst e6
    have g6 := ho6.2.2.2.2
    have hF6 := ho6.2.1
    replace hF6 := Lib.hid hF6
    replace ho6 := Lib.hid ho6
    have g56 := g6
    have gw6 : Gr w w6 := gw5.trans g6
    have hX6 := hX5.out.gr g6
    have hA6 := hA5.out.gr g6
    have hI6 := hI5.out.gr g6
    have hM6 := hM5.out.gr g6
    have hB6 := hB5.out.gr g6
    have hkp : ∀ x : GrW w6, Calls Tryd.prog 10 #[.slice (some ⟨g, 0, none⟩) r.tree.length c4, .slice a r.tree.length c] x.to fun e w' => e = .returned (.bool true) ∧ Gr x.to w' := fun x => kept_yes x.to g c4 r.tree a c (hM6.gr x.gr) hc4 hcm (hB6.gr x.gr) hl
    have hrf := fun x : GrW w6 => refuse_any k0 y code x.to
    have hsr : ∀ x : GrW w6, Calls Tryd.prog 11 #[.agg #[.int .i64 y.e.cl, .int .i64 y.e.nu, .int .i64 code, .int .i64 0, .slice none 0 0], .agg #[.int .i64 y.e.cl, .int .i64 y.e.nu, .int .i64 code, .int .i64 0, .slice none 0 0]] x.to fun e w' => e = .returned (.bool true) ∧ Gr x.to w' := fun x => rSameReply_yes x.to ⟨y.e.cl, y.e.nu, code, 0, []⟩ none none 0 0 (fun i s h => by simp at h) (fun i s h => by simp at h)
    have qx0 := GrW.cell (hX6.cell (i := 0) (v := .int .i64 r.cl) rfl)
    have qx1 := GrW.cell (hX6.cell (i := 1) (v := .int .i64 r.nu) rfl)
    have qx2 := GrW.cell (hX6.cell (i := 2) (v := .int .i64 r.co) rfl)
    have qx3 := GrW.cell (hX6.cell (i := 3) (v := .int .i64 r.id) rfl)
    have qx4 := GrW.cell (hX6.cell (i := 4) (v := .slice a r.tree.length c) rfl)
    have qa0 := GrW.cell (hA6.cell (i := 0) (v := .int .i64 k0) rfl)
    have qa1 := GrW.cell (hA6.cell (i := 1) (v := .int .i64 y.e.cl) rfl)
    have qa2 := GrW.cell (hA6.cell (i := 2) (v := .int .i64 y.e.nu) rfl)
    have qa3 := GrW.cell (hA6.cell (i := 3) (v := .int .i64 y.e.kd) rfl)
    have qa4 := GrW.cell (hA6.cell (i := 4) (v := .int .i64 y.e.id) rfl)
    have qa5 := GrW.cell (hA6.cell (i := 5) (v := .int .i64 y.e.srv.k) rfl)
    have qa6 := GrW.cell (hA6.cell (i := 6) (v := .int .i64 y.e.srv.q) rfl)
    have qa7 := GrW.cell (hA6.cell (i := 7) (v := .int .i64 y.e.srv.t) rfl)
    have qa8 := GrW.cell (hA6.cell (i := 8) (v := .int .i64 y.e.po) rfl)
    have qa9 := GrW.cell (hA6.cell (i := 9) (v := .slice y.a y.e.tasks.length y.c) rfl)
    have qa10 := GrW.cell (hA6.cell (i := 10) (v := .int .i64 y.e.at_) rfl)
    have qi0 := GrW.cell (hI6.cell (i := 0) (v := .int .i64 r.cl) rfl)
    have qi1 := GrW.cell (hI6.cell (i := 1) (v := .int .i64 r.nu) rfl)
    have qi2 := GrW.cell (hI6.cell (i := 2) (v := .int .i64 r.co) rfl)
    have qi3 := GrW.cell (hI6.cell (i := 3) (v := .int .i64 r.id) rfl)
    have qi4 := GrW.cell (hI6.cell (i := 4) (v := .slice (some ⟨g, 0, none⟩) r.tree.length c4) rfl)
    replace hkp := Lib.hid hkp
    replace hrf := Lib.hid hrf
    replace hsr := Lib.hid hsr
    replace hX6 := Lib.hid hX6
    replace hA6 := Lib.hid hA6
    replace hI6 := Lib.hid hI6
    replace hM6 := Lib.hid hM6
    replace hB6 := Lib.hid hB6
    go_upto_region 6 with fail
    refine wp_region_grows (by kernel_rfl) (by kernel_rfl) ?_
    repeat (any_goals (first | go_big_quiet_step (first | (exact Calls.grows (hkp.out _)) | (exact Calls.grows (hrf.out _)) | (exact Calls.grows (hsr.out _)) | fail) | quiet_step (first | (exact Calls.grows (hkp.out _)) | (exact Calls.grows (hrf.out _)) | (exact Calls.grows (hsr.out _)) | fail)))
    refine wpQuiet_nil ?_
    intro wz hwq
    have gz := GrW.of hwq
    clear hwq
    obtain ⟨cz, fz, sz⟩ := gz.cells
    try simp only [size_drewN] at cz fz sz
    try simp only [World.size_alloc] at cz fz sz
    try simp only [World.size_drew] at cz fz sz
    try simp only [World.size_setCell] at cz fz sz
    clear cz fz
    have hX7 := hX6.out.gr gz
    have h8 := rInForm_any wz r a c
    rw [hf] at h8
    replace h8 := Lib.hid h8
    have y0 := hX7.cell (i := 0) (v := .int .i64 r.cl) rfl
    have y1 := hX7.cell (i := 1) (v := .int .i64 r.nu) rfl
    have y2 := hX7.cell (i := 2) (v := .int .i64 r.co) rfl
    have y3 := hX7.cell (i := 3) (v := .int .i64 r.id) rfl
    have y4 := hX7.cell (i := 4) (v := .slice a r.tree.length c) rfl
    replace hX7 := Lib.hid hX7
    go_wp2_with fail
    refine h8.out.mono ?_
    rintro e w8 ⟨rfl, g8⟩
    have gw8 : Gr w w8 := ((gw5.trans g6).trans gz).trans g8
    have hF8 := hF6.out.gr (gz.trans g8)
    have hgr8 := hgr.out w8 gw8 g6b c6 hF8 hc6
    replace hF8 := Lib.hid hF8
    replace hgr8 := Lib.hid hgr8
    go_wp2_with fail
    refine hgr8.out.mono ?_
    rintro e w9 ⟨a9, c9, rfl, ho9⟩
    have g9 := ho9.2.2.2.2
    have gw9 := gw8.trans g9
    have hX10 := (hX7.out.gr g8).gr (g9.alloc (.cells #[.int .i64 r.cl, .int .i64 r.nu, .int .i64 r.co, .int .i64 r.id, .slice a9 r.tree.length c9] 24))
    have hD10 := Blk.new w9 #[.int .i64 r.cl, .int .i64 r.nu, .int .i64 r.co, .int .i64 r.id, .slice a9 r.tree.length c9] 24
    have gw10 : Gr w (w9.alloc (.cells #[.int .i64 r.cl, .int .i64 r.nu, .int .i64 r.co, .int .i64 r.id, .slice a9 r.tree.length c9] 24)) := gw9.alloc _
    have hF10 := hF8.out.gr (g9.alloc (.cells #[.int .i64 r.cl, .int .i64 r.nu, .int .i64 r.co, .int .i64 r.id, .slice a9 r.tree.length c9] 24))
    have ho10 := ho9.gr ((Gr.refl w9).alloc (.cells #[.int .i64 r.cl, .int .i64 r.nu, .int .i64 r.co, .int .i64 r.id, .slice a9 r.tree.length c9] 24))
    have hne9 : ∀ x, a9 = some x → w8.heap.size ≤ x.block ∧ x.block < w9.heap.size := fun x hx => ⟨ho9.2.2.2.1 x hx, ho9.lt hx⟩
    have z98 := g9.size
    have z8 := gw8.size
    have zx8 := (hX7.out.gr g8).lt
    have hg68 : g6b < w8.heap.size := by have := gz.size; have := g8.size; omega
    obtain ⟨W10, hW10⟩ : ∃ W10, W10 = w9.alloc (.cells #[.int .i64 r.cl, .int .i64 r.nu, .int .i64 r.co, .int .i64 r.id, .slice a9 r.tree.length c9] 24) := ⟨_, rfl⟩
    rw [← hW10] at hX10 hD10 gw10 hF10 ho10
    have hq10 := conv_any c6 (hF10.gr ((Gr.refl W10).drew))
    have hrp10 := hrp.out W10.drew (gw10.drew)
    have gdd : Gr W10 W10.drew := (Gr.refl W10).drew
    have x0 := hX10.cell (i := 0) (v := .int .i64 r.cl) rfl
    have x1 := hX10.cell (i := 1) (v := .int .i64 r.nu) rfl
    have x2 := hX10.cell (i := 2) (v := .int .i64 r.co) rfl
    have x3 := hX10.cell (i := 3) (v := .int .i64 r.id) rfl
    have x4 := hX10.cell (i := 4) (v := .slice a r.tree.length c) rfl
    have d0 := hD10.cell (i := 0) (v := .int .i64 r.cl) rfl
    have d1 := hD10.cell (i := 1) (v := .int .i64 r.nu) rfl
    have d2 := hD10.cell (i := 2) (v := .int .i64 r.co) rfl
    have d3 := hD10.cell (i := 3) (v := .int .i64 r.id) rfl
    have d4 := hD10.cell (i := 4) (v := .slice a9 r.tree.length c9) rfl
    replace hX10 := Lib.hid hX10
    replace hD10 := Lib.hid hD10
    replace hF10 := Lib.hid hF10
    replace ho10 := Lib.hid ho10
    replace ho9 := Lib.hid ho9
    have hnx : w.heap.size ∉ (a9.map (·.block)).toList := by
      cases a9 with
      | none => simp
      | some x => have := hne9 x rfl; simp; omega
    have hnd : w9.heap.size ∉ (a9.map (·.block)).toList := by
      cases a9 with
      | none => simp
      | some x => have := hne9 x rfl; simp; omega
    replace hnx := Lib.hid hnx
    replace hnd := Lib.hid hnd
    replace hne9 := Lib.hid hne9
    replace hrp10 := Lib.hid hrp10
    replace hW10 := Lib.hid hW10
    go_upto_region 11 with fail
    rw [← hW10.out]
    go_region_with (first
        | (go_at_call 15; (with_reducible refine hrp10.out.mono ?_); rintro e w11 ⟨a11, c11, rfl, ho11⟩; have g11 := gdd.trans ho11.2.2.2.2; have hX11 := hX10.out.gr g11; have hD11 := hD10.out.gr g11; have hF11 := hF10.out.gr g11; have hr11 := ho10.out.gr g11; have hs11 := hr11.2.1; have q11 := conv_any c6 hF11; have p11 := conv_any c11 ho11.2.1; have hT11 := hB.out.gr (gw10.trans g11); have x11_0 := hX11.cell (i := 0) (v := .int .i64 r.cl) rfl; have x11_1 := hX11.cell (i := 1) (v := .int .i64 r.nu) rfl; have x11_2 := hX11.cell (i := 2) (v := .int .i64 r.co) rfl; have x11_3 := hX11.cell (i := 3) (v := .int .i64 r.id) rfl; have x11_4 := hX11.cell (i := 4) (v := .slice a r.tree.length c) rfl; have d11_0 := hD11.cell (i := 0) (v := .int .i64 r.cl) rfl; have d11_1 := hD11.cell (i := 1) (v := .int .i64 r.nu) rfl; have d11_2 := hD11.cell (i := 2) (v := .int .i64 r.co) rfl; have d11_3 := hD11.cell (i := 3) (v := .int .i64 r.id) rfl; have d11_4 := hD11.cell (i := 4) (v := .slice a9 r.tree.length c9) rfl; replace hX11 := Lib.hid hX11; replace hD11 := Lib.hid hD11; replace hF11 := Lib.hid hF11; replace hr11 := Lib.hid hr11; replace hs11 := Lib.hid hs11; replace hT11 := Lib.hid hT11; replace ho11 := Lib.hid ho11)
        | (go_at_call 11; (with_reducible refine (rSameReply_yes w11 r a9 a c9 c hs11.out hT11.out).mono ?_); rintro e w12 ⟨rfl, g12⟩; have hX12 := hX11.out.gr g12; have hD12 := hD11.out.gr g12; have hF12 := hF11.out.gr g12; have hr12 := (hr11.out.gr g12).older gw8; have x12_0 := hX12.cell (i := 0) (v := .int .i64 r.cl) rfl; have x12_1 := hX12.cell (i := 1) (v := .int .i64 r.nu) rfl; have x12_2 := hX12.cell (i := 2) (v := .int .i64 r.co) rfl; have x12_3 := hX12.cell (i := 3) (v := .int .i64 r.id) rfl; have x12_4 := hX12.cell (i := 4) (v := .slice a r.tree.length c) rfl; have d12_0 := hD12.cell (i := 0) (v := .int .i64 r.cl) rfl; have d12_1 := hD12.cell (i := 1) (v := .int .i64 r.nu) rfl; have d12_2 := hD12.cell (i := 2) (v := .int .i64 r.co) rfl; have d12_3 := hD12.cell (i := 3) (v := .int .i64 r.id) rfl; have d12_4 := hD12.cell (i := 4) (v := .slice a9 r.tree.length c9) rfl; replace hX12 := Lib.hid hX12; replace hD12 := Lib.hid hD12; replace hF12 := Lib.hid hF12; replace hr12 := Lib.hid hr12)
        | (go_at_call 16; (with_reducible refine (apart_yes w w12 (some ⟨g6b, 0, none⟩) c6 F hF12.out a9 c9 r.tree hr12.out (fun x y hx hy => by cases hx; have := hne9.out y hy; show g6b ≠ _; omega) (by omega) ((a9.map (·.block)).toList) (fun y hy => by subst hy; simp)).mono ?_); rintro e w13 ⟨rfl, gw13, gx13⟩; have hX13 := hX12.out.grx gx13 hnx.out; have hD13 := hD12.out.grx gx13 hnd.out; have x13_0 := hX13.cell (i := 0) (v := .int .i64 r.cl) rfl; have x13_1 := hX13.cell (i := 1) (v := .int .i64 r.nu) rfl; have x13_2 := hX13.cell (i := 2) (v := .int .i64 r.co) rfl; have x13_3 := hX13.cell (i := 3) (v := .int .i64 r.id) rfl; have x13_4 := hX13.cell (i := 4) (v := .slice a r.tree.length c) rfl; have d13_0 := hD13.cell (i := 0) (v := .int .i64 r.cl) rfl; have d13_1 := hD13.cell (i := 1) (v := .int .i64 r.nu) rfl; have d13_2 := hD13.cell (i := 2) (v := .int .i64 r.co) rfl; have d13_3 := hD13.cell (i := 3) (v := .int .i64 r.id) rfl; have d13_4 := hD13.cell (i := 4) (v := .slice a9 r.tree.length c9) rfl; replace hX13 := Lib.hid hX13; replace hD13 := Lib.hid hD13)
        | fail)
    all_goals
      go_wp2_with fail
      go_ret
      exact ⟨rfl, gw13⟩
end Go.Proofs.YtlgbnjaoadlolaaDoor
