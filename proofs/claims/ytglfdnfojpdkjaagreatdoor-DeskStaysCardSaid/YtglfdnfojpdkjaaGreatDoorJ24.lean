/- tree.copied. Its loop printed by gen_t4.py (turned from Q21). -/
import Derived.Test.YtglfdnfojpdkjaaGreatDoorJ2
import Derived.Deep.DeepCutAuto
import Derived.Deep.AppendLies
namespace Go.Proofs.YtglfdnfojpdkjaaGreatDoor
open Go.RowKit

abbrev NdM.obj (x : NdM) : Obj := .cells #[.int .i64 x.e.id, .int .i64 x.e.par, .int .i64 x.e.srv.k, .int .i64 x.e.srv.q, .int .i64 x.e.srv.t, .int .i64 x.e.pol, .slice x.a x.e.tasks.length x.c] 90
theorem nd_cap {K : Nat → Prop} {w : World} {x : NdM} (h : x.ok K w) : x.e.tasks.length * 32 ≤ 140737488351232 := h.2.2.2.2
/-- A tree of one's own, in blocks from B on; all of it can be written. -/
structure OwnT (B : Nat) (w : World) (T : TM) : Prop where
  n : w.ownsRow B 90 7 (.slice T.an T.N.length T.cn) T.N.length (T.N.flatMap NdM.cells)
  g : w.ownsRow B 65 5 (.slice T.ag T.G.length T.cg) T.G.length (T.G.flatMap Gh.cells)
  k : ∀ x ∈ T.N, x.ok (fun b => B ≤ b) w
  d : ∀ x ∈ T.N, ∀ ad, x.a = some ad → x.e.tasks ≠ [] → (Value.slice T.an T.N.length T.cn).ownBlock ≠ some ad.block
  dg : ∀ x ∈ T.N, ∀ ad, x.a = some ad → x.e.tasks ≠ [] → (Value.slice T.ag T.G.length T.cg).ownBlock ≠ some ad.block
  f : ∀ x ∈ T.N, ∀ ad, x.a = some ad → x.e.tasks ≠ [] → ∀ o, w.frozen? ⟨ad.block, o, none⟩ = false
  l1 : T.N.length ≤ 1000000
  l2 : T.G.length ≤ 1000000
theorem owns_base {w : World} {B B' : Nat} {e : TypeId} {size : Nat} {v : Value} {n : Nat} {xs : List Value} (h : w.ownsRow B e size v n xs) (hb : B' ≤ B) : w.ownsRow B' e size v n xs := by
  refine ⟨h.1, ?_⟩
  rcases h.2 with hn | ⟨g, cap, cur, h1, h2, h3⟩
  · exact .inl hn
  · exact .inr ⟨g, cap, cur, h1, by omega, h3⟩
theorem OwnT.base {B B' : Nat} {w : World} {T : TM} (h : OwnT B w T) (hb : B' ≤ B) : OwnT B' w T := ⟨owns_base h.n hb, owns_base h.g hb, fun x hx => (h.k x hx).mono (fun b _ hk => by omega), h.d, h.dg, h.f, h.l1, h.l2⟩
theorem OwnT.gr {B : Nat} {w w' : World} {T : TM} (h : OwnT B w T) (g : Gr w w') : OwnT B w' T := ⟨owns_gr h.n g, owns_gr h.g g, fun x hx => (h.k x hx).gr g, h.d, h.dg, fun x hx ad ha ht o => by rw [g.cells.2.1 _ _ ((h.k x hx).1.1.lt ha ht)]; exact h.f x hx ad ha ht o, h.l1, h.l2⟩
theorem owns_gx {S : List Nat} {w w' : World} {base : Nat} {e : TypeId} {size : Nat} {v : Value} {n : Nat} {xs : List Value} (h : w.ownsRow base e size v n xs) (g : GrX S w w') (hS : ∀ k, v.ownBlock = some k → k ∉ S) : w'.ownsRow base e size v n xs := by
  refine ⟨h.1, ?_⟩
  rcases h.2 with hn | ⟨b, cap, cur, h1, h2, h3, h4⟩
  · exact .inl hn
  · refine .inr ⟨b, cap, cur, h1, h2, ?_, h4⟩
    rw [g.block b (Array.getElem?_eq_some_iff.1 h3).1 (hS b (by rw [h1]; rfl))]
    exact h3
theorem OwnT.grx {B : Nat} {S : List Nat} {w w' : World} {T : TM} (h : OwnT B w T) (g : GrX S w w') (hS : ∀ y, y ∈ S → y < B) : OwnT B w' T :=
  ⟨owns_gx h.n g (fun k hk hm => by have := (owns_lt h.n k hk).2; have := hS k hm; omega), owns_gx h.g g (fun k hk hm => by have := (owns_lt h.g k hk).2; have := hS k hm; omega), fun x hx => (h.k x hx).grx g (fun y hy hk => by have := hS y hy; omega), h.d, h.dg, fun x hx ad ha ht o => by
    have h1 := (h.k x hx).1.2 ad ha ht
    rw [g.frozen ((h.k x hx).1.1.lt ha ht) (fun hm => by have := hS _ hm; omega)]
    exact h.f x hx ad ha ht o, h.l1, h.l2⟩
theorem OwnT.at {B : Nat} {w : World} {T : TM} (h : OwnT B w T) : TreeAt (fun b => B ≤ b) w T := by
  obtain ⟨a1, c1, e1, r1, n1, b1⟩ := recs_of_owns NdM.cells_len h.n
  obtain ⟨a2, c2, e2, r2, n2, b2⟩ := recs_of_owns Gh.cells_len h.g
  injection e1 with p1 _ p3
  injection e2 with s1 _ s3
  subst p1 p3 s1 s3
  exact ⟨⟨⟨r1, fun x hx _ => b1 x hx⟩, h.k⟩, n1, ⟨r2, fun x hx _ => b2 x hx⟩, n2, h.l1, h.l2⟩
/-- A tree that was made anew. -/
def NewT (v : TreeV) (w : World) (e : Ending) (w' : World) : Prop := ∃ T : TM, e = .returned (.agg T.row) ∧ T.v = v ∧ OwnT w.heap.size w' T ∧ Gr w w'
set_option maxRecDepth 100000 in
set_option maxHeartbeats 3200000 in
theorem tcopied_any (T : TM) (w : World) (hT : TreeAt Any w T) :
    Calls Tryz.prog 71 #[.agg T.row] w (NewT T.v w) := by
  obtain ⟨i36, hi, hz0, hz1, hz2⟩ := info_parts Tryz.infoNd
  obtain ⟨W, hW⟩ : ∃ W, W = (w.alloc (.cells T.row 35)).alloc (.cells #[.slice none 0 0, .slice none 0 0, .int .i64 0, .int .i64 0] 35) := ⟨_, rfl⟩
  have gW : Gr w W := by rw [hW]; exact ((Gr.refl w).alloc _).alloc _
  have hO : Blk W w.heap.size T.row 35 := by rw [hW]; exact (Blk.new w _ _).alloc _
  have hR : Blk W (w.heap.size + 1) #[.slice none 0 0, .slice none 0 0, .int .i64 0, .int .i64 0] 35 := by
    rw [hW]
    have := Blk.new (w.alloc (.cells T.row 35)) #[.slice none 0 0, .slice none 0 0, .int .i64 0, .int .i64 0] 35
    rw [World.size_alloc] at this
    exact this
  have hWz : W.heap.size = w.heap.size + 2 := by rw [hW]; simp
  have hTW := hT.gr gW
  obtain ⟨N, an, cn, G, ag, cg, last, now⟩ := T
  obtain ⟨L, hLN⟩ : ∃ L, L = N := ⟨_, rfl⟩
  obtain ⟨h, hnn, hG, hgn, hl1, hl2⟩ := hTW
  dsimp only at h hG hnn hgn hl1 hl2
  rw [← hLN] at h hl1
  have o0 := hO.cell (i := 0) (v := .slice an L.length cn) (by rw [hLN]; rfl)
  have hm : L.length * 72 ≤ 140737488351232 := by omega
  dsimp only [TM.row] at hO hR hW
  rw [← hLN] at hO hW
  replace hW := Lib.hid hW
  replace hO := Lib.hid hO
  replace hR := Lib.hid hR
  replace hT := Lib.hid hT
  replace hWz := Lib.hid hWz
  replace hG := Lib.hid hG
  dsimp only [TM.row]
  rw [← hLN]
  replace hLN := Lib.hid hLN
  go_enter Tryz.func71, Tryz.ntmps71
  go_upto_region 2 with fail
  rw [← hW.out]
  go_wp2_with fail
  clear o0
  go_loopw [9, 3] (fun iv v wr => ∃ (k : Nat) (L' : List NdM), k ≤ L.length ∧ iv = .int .i64 k ∧ L'.length = k ∧ L'.map (·.e) = (L.take k).map (·.e) ∧ wr.ownsRow W.heap.size 90 7 v L'.length (L'.flatMap NdM.cells) ∧ (∀ x ∈ L', x.ok (fun b => W.heap.size ≤ b) wr ∧ ∀ ad, x.a = some ad → x.e.tasks ≠ [] → v.ownBlock ≠ some ad.block) ∧ (∀ x ∈ L', ∀ ad, x.a = some ad → x.e.tasks ≠ [] → ∀ o, wr.frozen? ⟨ad.block, o, none⟩ = false) ∧ Gr W wr) (fun iv _ _ => L.length - (intOf iv).toNat)
  case atStart => exact ⟨0, [], Nat.zero_le _, rfl, rfl, rfl, World.ownsRow_nil _ _ _ _, (fun _ h => by cases h), (fun _ h => by cases h), Gr.refl _⟩
  case round =>
    obtain ⟨k, L', hk, rfl, hlen, hmap, hown, hoks, hfr, hg⟩ := hrel
    replace hlen := Lib.hid hlen
    replace hmap := Lib.hid hmap
    replace hoks := Lib.hid hoks
    replace hfr := Lib.hid hfr
    by_cases hlt : k < L.length
    · obtain ⟨x, hx⟩ := get_some L k hlt
      obtain ⟨b, off, rfl, hb, _, c0, c1, c2, c3, c4, c5, c6⟩ := (h.gr hg).get hx
      have hxo := (h.gr hg).2 x (get_mem hx)
      have hxm := nd_cap hxo
      replace hx := Lib.hid hx
      go_wp2_with fail
      refine (cloneF_any x.a x.c x.e.tasks _ (hxo.gr ((Gr.refl wr).alloc x.obj)).1.1 hxo.2.1 hxm).mono ?_
      rintro e w1 ⟨a1, d1, rfl, r1, m1, q1, q2, g1, fr1, -⟩
      replace fr1 := Lib.hid fr1
      obtain ⟨k1, j1, s1⟩ := g1.cells
      simp only [World.size_alloc] at k1 j1 s1
      have z1 : wr.heap.size < w1.heap.size := by omega
      have kk := fun o => k1 wr.heap.size o (by omega)
      have jj := fun o => j1 wr.heap.size o (by omega)
      clear k1 j1
      -- the world behind the store, and behind the literal
      have gW : Gr wr (w1.setCell ⟨wr.heap.size, 6, none⟩ (.slice a1 x.e.tasks.length d1)) := (((Gr.refl wr).alloc x.obj).trans g1).setCell (Nat.le_refl _) _
      have hown2 := owns_gr hown gW
      have hl63 : L'.length + 1 ≤ maxLen := by rw [hlen.out]; unfold maxLen; omega
      have hby : (L'.length + 1) * 72 ≤ 140737488355328 := by rw [hlen.out]; omega
      have n3 : W.heap.size ≤ (w1.setCell ⟨wr.heap.size, 6, none⟩ (.slice a1 x.e.tasks.length d1)).heap.size := by have := hg.size; simp; omega
      have hrec := recs_alloc NdM.cells_len (w1.setCell ⟨wr.heap.size, 6, none⟩ (.slice a1 x.e.tasks.length d1)) [⟨x.e, a1, d1⟩] 90 (List.toArray (x.e.cells a1 d1)) (by simp)
      rw [World.size_setCell] at hrec
      have hbl := owns_lt hown
      replace hbl := Lib.hid hbl
      go_wp2_with (at_builtin; refine wpList_append_one (k := 7) (enc := NdM.cells) rfl _ _ 32 rfl W.heap.size 90 i36 _ 72 Tryz.underlying32 hi hz0 hz1 hz2 rfl (by decide) NdM.cells_len NdM.cells_one _ L' rfl (hown2.alloc _) w1.heap.size 1 ⟨x.e, a1, d1⟩ rfl hrec hl63 hby (le_alloc n3 _) ?_; intro v1 w2 hown1 hgr1 hat)
      have gW2 : Gr wr ((w1.setCell ⟨wr.heap.size, 6, none⟩ (.slice a1 x.e.tasks.length d1)).alloc (NdM.obj ⟨x.e, a1, d1⟩)) := gW.alloc _
      have hg2 : Gr W w2 := (hg.trans gW2).grown hgr1 (fun g hg' => (hbl.out g hg').2)
      have hx1 : RecsAt 4 Tsk.cells ((w1.setCell ⟨wr.heap.size, 6, none⟩ (.slice a1 x.e.tasks.length d1)).alloc (NdM.obj ⟨x.e, a1, d1⟩)) a1 x.e.tasks := by
        have hr1 := r1.grx (T := [wr.heap.size]) (((GrX.refl [wr.heap.size] w1).set (.inl (List.mem_singleton.2 rfl)) (.slice a1 x.e.tasks.length d1) : GrX [wr.heap.size] w1 (w1.setCell ⟨wr.heap.size, 6, none⟩ (.slice a1 x.e.tasks.length d1))).alloc (NdM.obj ⟨x.e, a1, d1⟩)) (fun y hy => by rw [List.mem_singleton.1 hy]; simp)
        exact hr1.1
      have hnew : ∀ ad, a1 = some ad → x.e.tasks ≠ [] → wr.heap.size < ad.block := fun ad h1 h2 => by have := r1.2 ad h1 h2; simp at this; omega
      have hoks2 : ∀ y ∈ L' ++ [⟨x.e, a1, d1⟩], y.ok (fun b => W.heap.size ≤ b) w2 ∧ ∀ ad, y.a = some ad → y.e.tasks ≠ [] → v1.ownBlock ≠ some ad.block := by
        intro y hy
        rcases List.mem_append.1 hy with hy | hy
        · obtain ⟨o1, o2⟩ := hoks.out y hy
          refine ⟨(o1.gr gW2).grown hgr1 o2, fun ad ha ht => ?_⟩
          rcases hat with hat | hat
          · rw [hat]; exact o2 ad ha ht
          · rw [hat]
            intro e
            have e2 : ((w1.setCell ⟨wr.heap.size, 6, none⟩ (.slice a1 x.e.tasks.length d1)).alloc (NdM.obj ⟨x.e, a1, d1⟩)).heap.size = ad.block := Option.some.inj e
            have e3 := o1.1.1.lt ha ht
            have e4 := gW2.size
            omega
        · rw [List.mem_singleton.1 hy]
          refine ⟨⟨⟨hx1.grown hgr1 (fun ad ha ht e => ?_), fun ad ha ht => ?_⟩, m1, q1, q2, hxm⟩, fun ad ha ht e => ?_⟩
          · have := (hbl.out _ e).1; have := hnew ad ha ht; omega
          · have := hnew ad ha ht; have := hg.size; omega
          · rcases hat with hat | hat
            · rw [hat] at e; have := (hbl.out _ e).1; have := hnew ad ha ht; omega
            · rw [hat] at e
              have e2 : ((w1.setCell ⟨wr.heap.size, 6, none⟩ (.slice a1 x.e.tasks.length d1)).alloc (NdM.obj ⟨x.e, a1, d1⟩)).heap.size = ad.block := Option.some.inj e
              have e3 := hx1.lt ha ht
              omega
      have hfr2 : ∀ y ∈ L' ++ [⟨x.e, a1, d1⟩], ∀ ad, y.a = some ad → y.e.tasks ≠ [] → ∀ o, w2.frozen? ⟨ad.block, o, none⟩ = false := by
        intro y hy ad ha ht o
        rcases List.mem_append.1 hy with hy | hy
        · obtain ⟨o1, o2⟩ := hoks.out y hy
          have e3 := o1.1.1.lt ha ht
          rw [hgr1.frozen_far ⟨ad.block, o, none⟩ (Nat.lt_of_lt_of_le e3 gW2.size) (fun e => o2 ad ha ht e.symm), gW2.cells.2.1 _ _ e3]
          exact hfr.out y hy ad ha ht o
        · rw [List.mem_singleton.1 hy] at ha ht
          have e3 := hx1.lt ha ht
          have e4 := r1.1.lt ha ht
          rw [hgr1.frozen_far ⟨ad.block, o, none⟩ e3 (fun e => by have h5 : ad.block < wr.heap.size := (hbl.out _ e.symm).1; have := hnew ad ha ht; omega)]
          rw [((Gr.refl (w1.setCell ⟨wr.heap.size, 6, none⟩ (.slice a1 x.e.tasks.length d1))).alloc (NdM.obj ⟨x.e, a1, d1⟩)).cells.2.1 _ _ (by simpa using e4)]
          rw [World.frozen?_setCell]
          exact fr1.out ad ha ht o
      replace hfr2 := Lib.hid hfr2
      clear hat hgr1 r1 hx1 hnew hbl hoks
      have hmap2 : (L' ++ [(⟨x.e, a1, d1⟩ : NdM)]).map (·.e) = (L.take (k + 1)).map (·.e) := by rw [take_snoc hx.out, List.map_append, List.map_append, hmap.out]; rfl
      replace hmap2 := Lib.hid hmap2
      replace hoks2 := Lib.hid hoks2
      go_wp2_with fail
      go_roundw
      case rel => exact ⟨k + 1, L' ++ [⟨x.e, a1, d1⟩], by omega, by go_num, by rw [List.length_append, hlen.out]; rfl, hmap2.out, hown1, hoks2.out, hfr2.out, hg2⟩
      case measure => simp [intOf]; omega
    · have hall : L.take k = L := List.take_of_length_le (by omega)
      obtain ⟨a', c', hv, hr, hn, hbb⟩ := recs_of_owns NdM.cells_len hown
      have hL : L'.length = L.length := by have := hlen.out; omega
      subst hv
      have hOr := hO.out.gr hg
      have hRr := hR.out.gr hg
      have o1 := hOr.cell (i := 1) (v := .slice ag G.length cg) rfl
      replace hOr := Lib.hid hOr
      replace hRr := Lib.hid hRr
      go_wp2_with fail
      refine (cloneG_any ag cg G wr (hG.out.grx (hg.x []) (fun _ h => by cases h)).1 hgn (by omega)).mono ?_
      rintro e w2 ⟨a2, c2, rfl, r2, m2, q1, q2, g2, fr2, own2⟩
      have hO2 := hOr.out.gr g2
      have hR2 := hRr.out.gr g2
      have p0 := hO2.cell (i := 0) (v := .slice an L.length cn) rfl
      have p1 := hO2.cell (i := 1) (v := .slice ag G.length cg) rfl
      have p2 := hO2.cell (i := 2) (v := .int .i64 last) rfl
      have p3 := hO2.cell (i := 3) (v := .int .i64 now) rfl
      have q0 := hR2.cell (i := 0) (v := .slice none 0 0) rfl
      have q1' := hR2.cell (i := 1) (v := .slice none 0 0) rfl
      have q2' := hR2.cell (i := 2) (v := .int .i64 0) rfl
      have q3 := hR2.cell (i := 3) (v := .int .i64 0) rfl
      have fo := fun i => hO2.free i
      have fr := fun i => hR2.free i
      have hne : w.heap.size ≠ w.heap.size + 1 := by omega
      replace hO2 := Lib.hid hO2
      replace hR2 := Lib.hid hR2
      replace r2 := Lib.hid r2
      replace m2 := Lib.hid m2
      replace fr2 := Lib.hid fr2
      replace own2 := Lib.hid own2
      replace hown := Lib.hid hown
      replace hr := Lib.hid hr
      clear o1
      go_wp2_with fail
      have hOT : OwnT W.heap.size w2 ⟨L', a', c', G, a2, c2, last, now⟩ := by
        have hgz := hg.size
        refine ⟨owns_gr (by rw [hL]; rw [hL] at hown; exact hown.out) g2, owns_base own2.out hgz, fun x hx => (hoks.out x hx).1.gr g2, fun x hx ad ha ht => (hoks.out x hx).2 ad ha ht, fun x hx ad ha ht e => ?_, fun x hx ad ha ht o => ?_, by show L'.length ≤ 1000000; omega, hl2⟩
        · have h1 := (owns_lt own2.out _ e).2
          have h2 := (hoks.out x hx).1.1.1.lt ha ht
          omega
        · rw [g2.cells.2.1 _ _ ((hoks.out x hx).1.1.1.lt ha ht)]
          exact hfr.out x hx ad ha ht o
      obtain ⟨w9, hw9⟩ : ∃ w9, w9 = ((((((w2.setCell ⟨w.heap.size, 0, none⟩ (.slice a' L.length c')).setCell ⟨w.heap.size, 1, none⟩ (.slice a2 G.length c2)).setCell ⟨w.heap.size + 1, 0, none⟩ (.slice a' L.length c')).setCell ⟨w.heap.size + 1, 1, none⟩ (.slice a2 G.length c2)).setCell ⟨w.heap.size + 1, 2, none⟩ (.int .i64 last)).setCell ⟨w.heap.size + 1, 3, none⟩ (.int .i64 now)) := ⟨_, rfl⟩
      rw [← hw9]
      have gx : GrX [w.heap.size, w.heap.size + 1] w2 w9 := by
        rw [hw9]
        exact ((((((GrX.refl _ _).set (.inl (by simp)) _).set (.inl (by simp)) _).set (.inl (by simp)) _).set (.inl (by simp)) _).set (.inl (by simp)) _).set (.inl (by simp)) _
      have hR9 : Blk w9 (w.heap.size + 1) #[.slice a' L.length c', .slice a2 G.length c2, .int .i64 last, .int .i64 now] 35 := by
        rw [hw9]
        exact (((((hR2.out.other hne.symm _).other hne.symm _).set 0 _).set 1 _).set 2 _).set 3 _
      have d0 := hR9.cell (i := 0) (v := .slice a' L.length c') rfl
      have d1 := hR9.cell (i := 1) (v := .slice a2 G.length c2) rfl
      have d2 := hR9.cell (i := 2) (v := .int .i64 last) rfl
      have d3 := hR9.cell (i := 3) (v := .int .i64 now) rfl
      have hwz := hWz.out
      refine bodyPost_ret (v := .agg #[.slice a' L.length c', .slice a2 G.length c2, .int .i64 last, .int .i64 now]) (by simp [results, Tryz.results71, go_sem, d0, d1, d2, d3]) rfl ?_
      refine ⟨⟨L', a', c', G, a2, c2, last, now⟩, by rw [show TM.row ⟨L', a', c', G, a2, c2, last, now⟩ = #[.slice a' L'.length c', .slice a2 G.length c2, .int .i64 last, .int .i64 now] from rfl, hL], ?_, (hOT.grx gx (fun y hy => by simp at hy; omega)).base (by omega), gx.all (gW.trans (hg.trans g2)) (fun y hy => by simp at hy; omega)⟩
      show TreeV.mk _ _ _ _ = TreeV.mk _ _ _ _
      rw [hmap.out, hall]
end Go.Proofs.YtglfdnfojpdkjaaGreatDoor
