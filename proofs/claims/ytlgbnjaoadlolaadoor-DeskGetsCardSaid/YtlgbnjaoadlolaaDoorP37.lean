/- DeskAsks: the walk. Printed by gen_p37.py. -/
import Derived.Test.YtlgbnjaoadlolaaDoorP31
import Derived.Test.YtlgbnjaoadlolaaDoorP35
import Derived.Test.YtlgbnjaoadlolaaDoorP36
namespace Go.Proofs.YtlgbnjaoadlolaaDoor
open Go.RowKit

/-- A question's frame is read back. -/
theorem getAsk_frame {G : List Nat} {E : Nat → Addr} (w : World) (hE : EAt G E w) (i0 : 0 ∈ G) (i1 : 1 ∈ G) (b c : Nat) (k : Int) (e : Ent) (hf : askF k e = true) (hS : BytesAt w (some ⟨b, 0, none⟩) (frameB (askB k e))) (hc : (frameB (askB k e)).length ≤ c) :
    Calls Tryd.prog 20 #[.slice (some ⟨b, 0, none⟩) (frameB (askB k e)).length c] w fun r w' => ∃ a' c', r = .returned (.tuple #[.agg #[.int .i64 k, .int .i64 e.cl, .int .i64 e.nu, .int .i64 e.kd, .int .i64 e.id, .int .i64 e.srv.k, .int .i64 e.srv.q, .int .i64 e.srv.t, .int .i64 e.po, .slice a' e.tasks.length c', .int .i64 e.at_], .nilIface]) ∧ (⟨e, a', c'⟩ : EntM).ok Any w' ∧ Gr w w' := by
  obtain ⟨hk, n1, n2, n3, n4⟩ := askF_parts hf
  have hal := askB_len hf
  obtain ⟨cl, nu, kd, id, ⟨sk, sq, st⟩, po, L0, at_⟩ := e
  dsimp only at n1 n2 n3 n4
  obtain ⟨m0, rfl⟩ : ∃ n : Nat, cl = n := ⟨cl.toNat, by omega⟩
  obtain ⟨m1, rfl⟩ : ∃ n : Nat, nu = n := ⟨nu.toNat, by omega⟩
  rcases hk with ⟨rfl, hfe⟩ | rfl
  · have hh := ent_head hfe
    have q2 := hh kd (by simp [headN])
    have q3 := hh at_ (by simp [headN])
    have q4 := hh id (by simp [headN])
    have q5 := hh sk (by simp [headN])
    have q6 := hh sq (by simp [headN])
    have q7 := hh st (by simp [headN])
    have q8 := hh po (by simp [headN])
    obtain ⟨m2, rfl⟩ : ∃ n : Nat, kd = n := ⟨kd.toNat, by omega⟩
    obtain ⟨m3, rfl⟩ : ∃ n : Nat, at_ = n := ⟨at_.toNat, by omega⟩
    obtain ⟨m4, rfl⟩ : ∃ n : Nat, id = n := ⟨id.toNat, by omega⟩
    obtain ⟨m5, rfl⟩ : ∃ n : Nat, sk = n := ⟨sk.toNat, by omega⟩
    obtain ⟨m6, rfl⟩ : ∃ n : Nat, sq = n := ⟨sq.toNat, by omega⟩
    obtain ⟨m7, rfl⟩ : ∃ n : Nat, st = n := ⟨st.toNat, by omega⟩
    obtain ⟨m8, rfl⟩ : ∃ n : Nat, po = n := ⟨po.toNat, by omega⟩
    obtain ⟨kk, jj, r1, r2, r3⟩ := ent_read hfe
    have hbl := entB_len hfe
    obtain ⟨P, hP⟩ : ∃ P, P = listB (entN (⟨m0, m1, m2, m4, ⟨m5, m6, m7⟩, m8, L0, m3⟩ : Ent)) := ⟨_, rfl⟩
    rw [← hP] at r1 r2 r3 hbl
    have hB : askB 1 (⟨m0, m1, m2, m4, ⟨m5, m6, m7⟩, m8, L0, m3⟩ : Ent) = [1, m0, m1].flatMap numB ++ (numB P.length ++ P) := by
      rw [hP]
      unfold askB
      rw [if_pos rfl, listB_map]
      rfl
    rw [hB] at hS hc hal ⊢
    have hN : numsR 10 P = some ([m0, m1, m2, m3, m4, m5, m6, m7, m8, L0.length], kk) := r1
    have h3 : numsR 3 ([1, m0, m1].flatMap numB ++ (numB P.length ++ P)) = some ([1, m0, m1], ([1, m0, m1].flatMap numB).length) := numsR_put [1, m0, m1] _ (fun n hn => by
      simp only [List.mem_cons, List.not_mem_nil, or_false] at hn
      rcases hn with rfl | rfl | rfl <;> omega)
    have hd : ([1, m0, m1].flatMap numB ++ (numB P.length ++ P)).drop ([1, m0, m1].flatMap numB).length = numB P.length ++ P := List.drop_left
    have hq : numR (([1, m0, m1].flatMap numB ++ (numB P.length ++ P)).drop ([1, m0, m1].flatMap numB).length) = some (P.length, (numB P.length).length) := by
      rw [hd]; exact numR_put (by omega) _
    refine getAsk_order w hE i0 i1 b 0 c _ hS (by omega) hc m0 m1 m2 m3 m4 m5 m6 m7 m8 _ _ P.length P h3 hq ?_ rfl (by omega) (by simp only [List.length_append]; omega) kk jj L0 hN r2 r3 hfe hf
    rw [← List.drop_drop, hd, List.drop_left, List.take_length]
  · have hz := hf
    unfold askF at hz
    simp only [Bool.or_eq_true, Bool.and_eq_true, decide_eq_true_iff] at hz
    have hz2 : zoB (⟨m0, m1, kd, id, ⟨sk, sq, st⟩, po, L0, at_⟩ : Ent) = true := by
      rcases hz with ⟨h1, _⟩ | ⟨⟨_, h1⟩, _⟩
      · omega
      · exact h1
    obtain ⟨z1, z2, ⟨z3, z4, z5⟩, z6, z7, z8⟩ := (zo_iff _).1 hz2
    dsimp only at z1 z2 z3 z4 z5 z6 z7 z8
    obtain rfl := List.length_eq_zero_iff.1 z8
    subst z1 z2 z3 z4 z5 z6 z7
    have hB : askB 2 (⟨m0, m1, 0, 0, ⟨0, 0, 0⟩, 0, [], 0⟩ : Ent) = [2, m0, m1].flatMap numB := by
      unfold askB
      rw [if_neg (by decide), listB_map, List.append_nil]
      rfl
    rw [hB] at hS hc hal ⊢
    have h3 : numsR 3 ([2, m0, m1].flatMap numB) = some ([2, m0, m1], ([2, m0, m1].flatMap numB).length) := by
      have := numsR_put [2, m0, m1] [] (fun n hn => by
        simp only [List.mem_cons, List.not_mem_nil, or_false] at hn
        rcases hn with rfl | rfl | rfl <;> omega)
      rwa [List.append_nil] at this
    refine (getAsk_tree w hE i0 i1 b 0 c _ hS (by omega) hc m0 m1 _ h3 rfl hf).mono ?_
    rintro r w' ⟨rfl, g⟩
    exact ⟨none, 0, rfl, exE_okZ m0 m1 w', g⟩
set_option maxRecDepth 100000 in
set_option maxHeartbeats 12800000 in
theorem asks_any {G : List Nat} {E : Nat → Addr} (w : World) (hE : EAt G E w) (i0 : 0 ∈ G) (i1 : 1 ∈ G) (k : Int) (e : Ent) (a : Option Addr) (c : Nat) (h : (⟨e, a, c⟩ : EntM).ok Any w) :
    Calls Tryd.prog 4 #[.agg #[.int .i64 k, .int .i64 e.cl, .int .i64 e.nu, .int .i64 e.kd, .int .i64 e.id, .int .i64 e.srv.k, .int .i64 e.srv.q, .int .i64 e.srv.t, .int .i64 e.po, .slice a e.tasks.length c, .int .i64 e.at_]] w fun r w' => r = .returned (.bool true) ∧ Gr w w' := by
  have heq0 := fun w => eql_same E 0 w
  have hsz := h.2.2.2.2
  dsimp only at hsz
  have h0 := h
  replace h := Lib.hid h
  go_enter Tryd.func4, Tryd.ntmps4
  go_wp2_with fail
  refine (alive20_any _ (hE.gr ((Gr.refl w).alloc _)) i0).mono ?_
  rintro e wa ⟨rfl, ga⟩
  obtain ⟨ca, fa, sa⟩ := ga.cells
  try simp only [size_drewN] at ca fa sa
  try simp only [World.size_alloc] at ca fa sa
  try simp only [World.size_drew] at ca fa sa
  try simp only [World.size_setCell] at ca fa sa
  have za0 : w.heap.size < wa.heap.size := by omega
  have ya0 : w.heap.size ≤ wa.heap.size := by omega
  have ka0 := fun o => ca (w.heap.size) o (by omega)
  have ja0 := fun o => fa (w.heap.size) o (by omega)
  have gwa : Gr w wa := ((Gr.refl w).alloc _).trans ga
  have hA0 : Blk wa w.heap.size #[.int .i64 k, .int .i64 e.cl, .int .i64 e.nu, .int .i64 e.kd, .int .i64 e.id, .int .i64 e.srv.k, .int .i64 e.srv.q, .int .i64 e.srv.t, .int .i64 e.po, .slice a e.tasks.length c, .int .i64 e.at_] 31 := (Blk.new w _ _).gr ga
  have zA := hA0.lt
  have x0 := hA0.cell (i := 0) (v := .int .i64 k) rfl
  have x1 := hA0.cell (i := 1) (v := .int .i64 e.cl) rfl
  have x2 := hA0.cell (i := 2) (v := .int .i64 e.nu) rfl
  have x3 := hA0.cell (i := 3) (v := .int .i64 e.kd) rfl
  have x4 := hA0.cell (i := 4) (v := .int .i64 e.id) rfl
  have x5 := hA0.cell (i := 5) (v := .int .i64 e.srv.k) rfl
  have x6 := hA0.cell (i := 6) (v := .int .i64 e.srv.q) rfl
  have x7 := hA0.cell (i := 7) (v := .int .i64 e.srv.t) rfl
  have x8 := hA0.cell (i := 8) (v := .int .i64 e.po) rfl
  have x9 := hA0.cell (i := 9) (v := .slice a e.tasks.length c) rfl
  have x10 := hA0.cell (i := 10) (v := .int .i64 e.at_) rfl
  obtain ⟨W, hW⟩ : ∃ W, W = wa.alloc (.cells #[.int .i64 k, .int .i64 e.cl, .int .i64 e.nu, .int .i64 e.kd, .int .i64 e.id, .int .i64 e.srv.k, .int .i64 e.srv.q, .int .i64 e.srv.t, .int .i64 e.po, .slice a e.tasks.length c, .int .i64 e.at_] 31) := ⟨_, rfl⟩
  have gW : Gr wa W := by rw [hW]; exact (Gr.refl wa).alloc _
  have hI0 : Blk W wa.heap.size #[.int .i64 k, .int .i64 e.cl, .int .i64 e.nu, .int .i64 e.kd, .int .i64 e.id, .int .i64 e.srv.k, .int .i64 e.srv.q, .int .i64 e.srv.t, .int .i64 e.po, .slice a e.tasks.length c, .int .i64 e.at_] 31 := by rw [hW]; exact Blk.new wa _ _
  have hAW := hA0.gr gW
  have hzW : W.heap.size = wa.heap.size + 1 := by rw [hW]; simp
  have hwaA : W.cell? ⟨w.heap.size, 9, none⟩ = some (.slice a e.tasks.length c) := hAW.cell rfl
  have hO0 := owns_empty (α := Tsk) (enc := Tsk.cells) W 117 4 (.cells #[] 117) rfl W.heap.size (Nat.le_refl _)
  have hs0 : RecsAt 4 Tsk.cells (W.alloc (.cells #[] 117)) a e.tasks := (((h0.gr (gwa.trans gW)).gr ((Gr.refl W).alloc (.cells #[] 117))).1).1
  have hcn := h0.2.1
  dsimp only at hcn
  rw [hzW] at hO0
  replace hA0 := Lib.hid hA0
  replace hAW := Lib.hid hAW
  replace hI0 := Lib.hid hI0
  replace hO0 := Lib.hid hO0
  replace hs0 := Lib.hid hs0
  replace hzW := Lib.hid hzW
  replace hW := Lib.hid hW
  clear h0
  go_upto_region 5 with (at_builtin; go_loud (rw [← hW.out]; refine wpList_appT (B := wa.heap.size + 1) rfl _ _ rfl (some ⟨wa.heap.size + 1, 0, none⟩) 0 0 [] rfl rfl hO0.out a c e.tasks rfl hs0.out hcn (by simp; omega) (by have := hzW.out; simp; omega) ?_; intro a4 c4 w4 hown4 hr4 hn4 hB4 hgr4; rw [List.nil_append] at hown4 hr4 ⊢; have gW4 : Gr W w4 := ((Gr.refl W).alloc _).grown hgr4 (fun x hx => by have := hzW.out; simp [Value.ownBlock] at hx; omega); have hI4 := hI0.out.gr gW4; have ei4 := hI4.cell (i := 9) (v := .slice a e.tasks.length c) rfl; have fi4 := hI4.free 9; have zi4 := hI4.lt; have hA4 := hAW.out.gr gW4; replace hI4 := Lib.hid hI4; replace hA4 := Lib.hid hA4; replace hown4 := Lib.hid hown4; replace hr4 := Lib.hid hr4; replace hn4 := Lib.hid hn4; replace hB4 := Lib.hid hB4; clear hgr4))
  obtain ⟨w5, hw5⟩ : ∃ w5, w5 = w4.setCell ⟨wa.heap.size, 9, none⟩ (.slice a4 e.tasks.length c4) := ⟨_, rfl⟩
  have g45 : GrX [wa.heap.size] w4 w5 := by rw [hw5]; exact (GrX.refl _ _).set (.inl (by simp)) _
  have hI5 : Blk w5 wa.heap.size #[.int .i64 k, .int .i64 e.cl, .int .i64 e.nu, .int .i64 e.kd, .int .i64 e.id, .int .i64 e.srv.k, .int .i64 e.srv.q, .int .i64 e.srv.t, .int .i64 e.po, .slice a4 e.tasks.length c4, .int .i64 e.at_] 31 := by rw [hw5]; exact hI4.out.set 9 _
  have hA5 := hA4.out.grx g45 (by simp; omega)
  have gw4 : Gr w w4 := (gwa.trans gW).trans gW4
  have gw5 : Gr w w5 := GrX.all gw4 g45 (fun x hx => by have := gwa.size; simp at hx; omega)
  have hmx := owns_tmax hown4.out
  have ht5 := (RecsIn.grx (K := fun b => wa.heap.size + 1 ≤ b) ⟨hr4.out, fun x hx _ => hB4.out x hx⟩ g45 (fun x hx => by simp at hx; omega)).1
  have ok4 : (⟨e, a4, c4⟩ : EntM).ok Any w5 := ⟨⟨ht5, fun _ _ _ => trivial⟩, hn4.out, hmx.1, hmx.2, hsz⟩
  have okA : (⟨e, a, c⟩ : EntM).ok Any w5 := h.out.gr gw5
  have hsa := fun w6 (g : Gr w5 w6) => rSameAsk_eq k e a4 c4 a c w6 (ok4.gr g) (okA.gr g)
  have hif := fun w6 (g : Gr w5 w6) => rInForm20_any k e a c w6 (okA.gr g)
  have p0 := hI5.cell (i := 0) (v := .int .i64 k) rfl
  have p1 := hI5.cell (i := 1) (v := .int .i64 e.cl) rfl
  have p2 := hI5.cell (i := 2) (v := .int .i64 e.nu) rfl
  have p3 := hI5.cell (i := 3) (v := .int .i64 e.kd) rfl
  have p4 := hI5.cell (i := 4) (v := .int .i64 e.id) rfl
  have p5 := hI5.cell (i := 5) (v := .int .i64 e.srv.k) rfl
  have p6 := hI5.cell (i := 6) (v := .int .i64 e.srv.q) rfl
  have p7 := hI5.cell (i := 7) (v := .int .i64 e.srv.t) rfl
  have p8 := hI5.cell (i := 8) (v := .int .i64 e.po) rfl
  have p9 := hI5.cell (i := 9) (v := .slice a4 e.tasks.length c4) rfl
  have p10 := hI5.cell (i := 10) (v := .int .i64 e.at_) rfl
  replace hI5 := Lib.hid hI5
  replace hA5 := Lib.hid hA5
  replace ok4 := Lib.hid ok4
  replace okA := Lib.hid okA
  replace hsa := Lib.hid hsa
  replace hif := Lib.hid hif
  replace ht5 := Lib.hid ht5
  replace hw5 := Lib.hid hw5
  rw [← hw5.out]
  clear hmx ei4 fi4 zi4
  cases hf : askF k e with
  | false =>
    have hp := putAsk_no k e a4 c4 w5 ok4.out (hE.gr gw5) i0 hf
    rw [hf] at hif
    replace hp := Lib.hid hp
    replace hf := Lib.hid hf
    go_wp2_with fail
    refine hp.out.mono ?_
    rintro r w6 ⟨rfl, g6⟩
    have hI6 := hI5.out.gr g6
    have hA6 := hA5.out.gr g6
    have pi0 := hI6.cell (i := 0) (v := .int .i64 k) rfl
    have pi1 := hI6.cell (i := 1) (v := .int .i64 e.cl) rfl
    have pi2 := hI6.cell (i := 2) (v := .int .i64 e.nu) rfl
    have pi3 := hI6.cell (i := 3) (v := .int .i64 e.kd) rfl
    have pi4 := hI6.cell (i := 4) (v := .int .i64 e.id) rfl
    have pi5 := hI6.cell (i := 5) (v := .int .i64 e.srv.k) rfl
    have pi6 := hI6.cell (i := 6) (v := .int .i64 e.srv.q) rfl
    have pi7 := hI6.cell (i := 7) (v := .int .i64 e.srv.t) rfl
    have pi8 := hI6.cell (i := 8) (v := .int .i64 e.po) rfl
    have pi9 := hI6.cell (i := 9) (v := .slice a4 e.tasks.length c4) rfl
    have pi10 := hI6.cell (i := 10) (v := .int .i64 e.at_) rfl
    have pa0 := hA6.cell (i := 0) (v := .int .i64 k) rfl
    have pa1 := hA6.cell (i := 1) (v := .int .i64 e.cl) rfl
    have pa2 := hA6.cell (i := 2) (v := .int .i64 e.nu) rfl
    have pa3 := hA6.cell (i := 3) (v := .int .i64 e.kd) rfl
    have pa4 := hA6.cell (i := 4) (v := .int .i64 e.id) rfl
    have pa5 := hA6.cell (i := 5) (v := .int .i64 e.srv.k) rfl
    have pa6 := hA6.cell (i := 6) (v := .int .i64 e.srv.q) rfl
    have pa7 := hA6.cell (i := 7) (v := .int .i64 e.srv.t) rfl
    have pa8 := hA6.cell (i := 8) (v := .int .i64 e.po) rfl
    have pa9 := hA6.cell (i := 9) (v := .slice a e.tasks.length c) rfl
    have pa10 := hA6.cell (i := 10) (v := .int .i64 e.at_) rfl
    replace hI6 := Lib.hid hI6
    replace hA6 := Lib.hid hA6
    go_wp2_with fail
    refine (hsa.out w6 g6).mono ?_
    rintro r w7 ⟨rfl, g7⟩
    have g67 := g6.trans g7
    have hA7 := hA6.out.gr g7
    have h8 := hif.out w7 g67
    have qa0 := hA7.cell (i := 0) (v := .int .i64 k) rfl
    have qa1 := hA7.cell (i := 1) (v := .int .i64 e.cl) rfl
    have qa2 := hA7.cell (i := 2) (v := .int .i64 e.nu) rfl
    have qa3 := hA7.cell (i := 3) (v := .int .i64 e.kd) rfl
    have qa4 := hA7.cell (i := 4) (v := .int .i64 e.id) rfl
    have qa5 := hA7.cell (i := 5) (v := .int .i64 e.srv.k) rfl
    have qa6 := hA7.cell (i := 6) (v := .int .i64 e.srv.q) rfl
    have qa7 := hA7.cell (i := 7) (v := .int .i64 e.srv.t) rfl
    have qa8 := hA7.cell (i := 8) (v := .int .i64 e.po) rfl
    have qa9 := hA7.cell (i := 9) (v := .slice a e.tasks.length c) rfl
    have qa10 := hA7.cell (i := 10) (v := .int .i64 e.at_) rfl
    replace hA7 := Lib.hid hA7
    replace h8 := Lib.hid h8
    go_wp2_with fail
    refine h8.out.mono ?_
    rintro r w8 ⟨rfl, g8⟩
    have gw8 := gw5.trans (g67.trans g8)
    have he := (hE.gr gw8).c0 i0
    go_wp2_with fail
    go_ret
    exact ⟨rfl, gw8⟩
  | true =>
    have hp := putAsk_yes k e a4 c4 w5 ok4.out (hE.gr gw5) i0 hf
    rw [hf] at hif
    obtain ⟨kn, hkn⟩ : ∃ kn : Nat, k = kn := ⟨k.toNat, by have := (askF_parts hf).1; omega⟩
    have hgr := fun w1 (g : Gr w w1) b c hS hc => getAsk_frame w1 (hE.gr g) i0 i1 b c k e hf hS hc
    have hrp := fun w1 (g : Gr w w1) => rPutAsk_any kn e a c w1 (h.out.gr g) (by rw [← hkn]; exact hf)
    rw [← hkn] at hrp
    have hfl := frameB_len (askB k e)
    have hal := askB_len hf
    obtain ⟨F, hF⟩ : ∃ F, F = frameB (askB k e) := ⟨_, rfl⟩
    rw [← hF] at hp hfl
    simp only [← hF] at hgr hrp
    have hFl : F.length ≤ 30000 := by omega
    have hFne : F ≠ [] := by intro e; rw [e] at hfl; simp at hfl
    replace hf := Lib.hid hf
    replace hkn := Lib.hid hkn
    replace hF := Lib.hid hF
    replace hp := Lib.hid hp
    replace hgr := Lib.hid hgr
    replace hrp := Lib.hid hrp
    replace hfl := Lib.hid hfl
    replace hFne := Lib.hid hFne
    go_wp2_with fail
    refine hp.out.mono ?_
    rintro r w6 ⟨a6, c6, rfl, ho6⟩
    obtain ⟨g6b, e6, hg61, hg62, -, hc6⟩ := ho6.block hFne.out
    subst e6
    have g6 := ho6.2.2.2.2
    have hF6 := ho6.2.1
    replace hF6 := Lib.hid hF6
    replace ho6 := Lib.hid ho6
    have hI6 := hI5.out.gr g6
    have hA6 := hA5.out.gr g6
    have pi0 := hI6.cell (i := 0) (v := .int .i64 k) rfl
    have pi1 := hI6.cell (i := 1) (v := .int .i64 e.cl) rfl
    have pi2 := hI6.cell (i := 2) (v := .int .i64 e.nu) rfl
    have pi3 := hI6.cell (i := 3) (v := .int .i64 e.kd) rfl
    have pi4 := hI6.cell (i := 4) (v := .int .i64 e.id) rfl
    have pi5 := hI6.cell (i := 5) (v := .int .i64 e.srv.k) rfl
    have pi6 := hI6.cell (i := 6) (v := .int .i64 e.srv.q) rfl
    have pi7 := hI6.cell (i := 7) (v := .int .i64 e.srv.t) rfl
    have pi8 := hI6.cell (i := 8) (v := .int .i64 e.po) rfl
    have pi9 := hI6.cell (i := 9) (v := .slice a4 e.tasks.length c4) rfl
    have pi10 := hI6.cell (i := 10) (v := .int .i64 e.at_) rfl
    have pa0 := hA6.cell (i := 0) (v := .int .i64 k) rfl
    have pa1 := hA6.cell (i := 1) (v := .int .i64 e.cl) rfl
    have pa2 := hA6.cell (i := 2) (v := .int .i64 e.nu) rfl
    have pa3 := hA6.cell (i := 3) (v := .int .i64 e.kd) rfl
    have pa4 := hA6.cell (i := 4) (v := .int .i64 e.id) rfl
    have pa5 := hA6.cell (i := 5) (v := .int .i64 e.srv.k) rfl
    have pa6 := hA6.cell (i := 6) (v := .int .i64 e.srv.q) rfl
    have pa7 := hA6.cell (i := 7) (v := .int .i64 e.srv.t) rfl
    have pa8 := hA6.cell (i := 8) (v := .int .i64 e.po) rfl
    have pa9 := hA6.cell (i := 9) (v := .slice a e.tasks.length c) rfl
    have pa10 := hA6.cell (i := 10) (v := .int .i64 e.at_) rfl
    replace hI6 := Lib.hid hI6
    replace hA6 := Lib.hid hA6
    go_wp2_with fail
    refine (hsa.out w6 g6).mono ?_
    rintro r w7 ⟨rfl, g7⟩
    have g67 := g6.trans g7
    have hA7 := hA6.out.gr g7
    have h8 := hif.out w7 g67
    have qa0 := hA7.cell (i := 0) (v := .int .i64 k) rfl
    have qa1 := hA7.cell (i := 1) (v := .int .i64 e.cl) rfl
    have qa2 := hA7.cell (i := 2) (v := .int .i64 e.nu) rfl
    have qa3 := hA7.cell (i := 3) (v := .int .i64 e.kd) rfl
    have qa4 := hA7.cell (i := 4) (v := .int .i64 e.id) rfl
    have qa5 := hA7.cell (i := 5) (v := .int .i64 e.srv.k) rfl
    have qa6 := hA7.cell (i := 6) (v := .int .i64 e.srv.q) rfl
    have qa7 := hA7.cell (i := 7) (v := .int .i64 e.srv.t) rfl
    have qa8 := hA7.cell (i := 8) (v := .int .i64 e.po) rfl
    have qa9 := hA7.cell (i := 9) (v := .slice a e.tasks.length c) rfl
    have qa10 := hA7.cell (i := 10) (v := .int .i64 e.at_) rfl
    replace hA7 := Lib.hid hA7
    replace h8 := Lib.hid h8
    go_wp2_with fail
    refine h8.out.mono ?_
    rintro r w8 ⟨rfl, g8⟩
    have gw8 := gw5.trans (g67.trans g8)
    have hF8 := hF6.out.gr (g7.trans g8)
    have hgr8 := hgr.out w8 gw8 g6b c6 hF8 hc6
    replace hF8 := Lib.hid hF8
    replace hgr8 := Lib.hid hgr8
    go_wp2_with fail
    refine hgr8.out.mono ?_
    rintro r w9 ⟨a9, c9, rfl, ok9, g9⟩
    have gw9 := gw8.trans g9
    obtain ⟨W10, hW10⟩ : ∃ W10, W10 = w9.alloc (.cells #[.int .i64 k, .int .i64 e.cl, .int .i64 e.nu, .int .i64 e.kd, .int .i64 e.id, .int .i64 e.srv.k, .int .i64 e.srv.q, .int .i64 e.srv.t, .int .i64 e.po, .slice a9 e.tasks.length c9, .int .i64 e.at_] 31) := ⟨_, rfl⟩
    have g10 : Gr w9 W10 := by rw [hW10]; exact (Gr.refl w9).alloc _
    have hD10 : Blk W10 w9.heap.size #[.int .i64 k, .int .i64 e.cl, .int .i64 e.nu, .int .i64 e.kd, .int .i64 e.id, .int .i64 e.srv.k, .int .i64 e.srv.q, .int .i64 e.srv.t, .int .i64 e.po, .slice a9 e.tasks.length c9, .int .i64 e.at_] 31 := by rw [hW10]; exact Blk.new w9 _ _
    have hX10 := (hA7.out.gr g8).gr (g9.trans g10)
    have hF10 := hF8.out.gr (g9.trans g10)
    have gw10 := gw9.trans g10
    have gdd : Gr W10 W10.drew := (Gr.refl W10).drew
    have hq10 := conv_any c6 (hF10.gr gdd)
    have hrp10 := hrp.out W10.drew (gw10.trans gdd)
    have hsd := fun w11 (g : Gr W10 w11) => rSameAsk_eq k e a9 c9 a c w11 ((ok9.gr g10).gr g) (h.out.gr (gw10.trans g))
    have x10_0 := hX10.cell (i := 0) (v := .int .i64 k) rfl
    have x10_1 := hX10.cell (i := 1) (v := .int .i64 e.cl) rfl
    have x10_2 := hX10.cell (i := 2) (v := .int .i64 e.nu) rfl
    have x10_3 := hX10.cell (i := 3) (v := .int .i64 e.kd) rfl
    have x10_4 := hX10.cell (i := 4) (v := .int .i64 e.id) rfl
    have x10_5 := hX10.cell (i := 5) (v := .int .i64 e.srv.k) rfl
    have x10_6 := hX10.cell (i := 6) (v := .int .i64 e.srv.q) rfl
    have x10_7 := hX10.cell (i := 7) (v := .int .i64 e.srv.t) rfl
    have x10_8 := hX10.cell (i := 8) (v := .int .i64 e.po) rfl
    have x10_9 := hX10.cell (i := 9) (v := .slice a e.tasks.length c) rfl
    have x10_10 := hX10.cell (i := 10) (v := .int .i64 e.at_) rfl
    have d10_0 := hD10.cell (i := 0) (v := .int .i64 k) rfl
    have d10_1 := hD10.cell (i := 1) (v := .int .i64 e.cl) rfl
    have d10_2 := hD10.cell (i := 2) (v := .int .i64 e.nu) rfl
    have d10_3 := hD10.cell (i := 3) (v := .int .i64 e.kd) rfl
    have d10_4 := hD10.cell (i := 4) (v := .int .i64 e.id) rfl
    have d10_5 := hD10.cell (i := 5) (v := .int .i64 e.srv.k) rfl
    have d10_6 := hD10.cell (i := 6) (v := .int .i64 e.srv.q) rfl
    have d10_7 := hD10.cell (i := 7) (v := .int .i64 e.srv.t) rfl
    have d10_8 := hD10.cell (i := 8) (v := .int .i64 e.po) rfl
    have d10_9 := hD10.cell (i := 9) (v := .slice a9 e.tasks.length c9) rfl
    have d10_10 := hD10.cell (i := 10) (v := .int .i64 e.at_) rfl
    replace hX10 := Lib.hid hX10
    replace hD10 := Lib.hid hD10
    replace hF10 := Lib.hid hF10
    replace hrp10 := Lib.hid hrp10
    replace hsd := Lib.hid hsd
    replace ok9 := Lib.hid ok9
    replace hW10 := Lib.hid hW10
    go_upto_region 11 with fail
    rw [← hW10.out]
    go_region_with (first
        | (go_at_call 21; (with_reducible refine hrp10.out.mono ?_); rintro r w11 ⟨a11, c11, rfl, ho11⟩; have g11 := gdd.trans ho11.2.2.2.2; have hX11 := hX10.out.gr g11; have hD11 := hD10.out.gr g11; have q11 := conv_any c6 (hF10.out.gr g11); have p11 := conv_any c11 ho11.2.1; have x11_0 := hX11.cell (i := 0) (v := .int .i64 k) rfl; have x11_1 := hX11.cell (i := 1) (v := .int .i64 e.cl) rfl; have x11_2 := hX11.cell (i := 2) (v := .int .i64 e.nu) rfl; have x11_3 := hX11.cell (i := 3) (v := .int .i64 e.kd) rfl; have x11_4 := hX11.cell (i := 4) (v := .int .i64 e.id) rfl; have x11_5 := hX11.cell (i := 5) (v := .int .i64 e.srv.k) rfl; have x11_6 := hX11.cell (i := 6) (v := .int .i64 e.srv.q) rfl; have x11_7 := hX11.cell (i := 7) (v := .int .i64 e.srv.t) rfl; have x11_8 := hX11.cell (i := 8) (v := .int .i64 e.po) rfl; have x11_9 := hX11.cell (i := 9) (v := .slice a e.tasks.length c) rfl; have x11_10 := hX11.cell (i := 10) (v := .int .i64 e.at_) rfl; have d11_0 := hD11.cell (i := 0) (v := .int .i64 k) rfl; have d11_1 := hD11.cell (i := 1) (v := .int .i64 e.cl) rfl; have d11_2 := hD11.cell (i := 2) (v := .int .i64 e.nu) rfl; have d11_3 := hD11.cell (i := 3) (v := .int .i64 e.kd) rfl; have d11_4 := hD11.cell (i := 4) (v := .int .i64 e.id) rfl; have d11_5 := hD11.cell (i := 5) (v := .int .i64 e.srv.k) rfl; have d11_6 := hD11.cell (i := 6) (v := .int .i64 e.srv.q) rfl; have d11_7 := hD11.cell (i := 7) (v := .int .i64 e.srv.t) rfl; have d11_8 := hD11.cell (i := 8) (v := .int .i64 e.po) rfl; have d11_9 := hD11.cell (i := 9) (v := .slice a9 e.tasks.length c9) rfl; have d11_10 := hD11.cell (i := 10) (v := .int .i64 e.at_) rfl; replace hX11 := Lib.hid hX11; replace hD11 := Lib.hid hD11; replace ho11 := Lib.hid ho11)
        | (go_at_call 18; (with_reducible refine (hsd.out w11 g11).mono ?_); rintro r w12 ⟨rfl, g12⟩; have gw12 := gw10.trans (g11.trans g12))
        | fail)
    all_goals
      go_wp2_with fail
      go_ret
      exact ⟨rfl, gw12⟩
end Go.Proofs.YtlgbnjaoadlolaaDoor
