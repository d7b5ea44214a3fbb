/- A region that draws its order and stores at its end into a cell that it read: what was read ahead is taken first, so long as the store has not come up. Nothing of the program is named here. -/
import Derived.Deep.RegionHeld3
import Derived.StillTail
import Derived.Test.YtglfdnfojpdkjaaGreatDoorJ23
import Derived.Test.YtglfdnfojpdkjaaGreatDoorJ26
namespace Go.Proofs.YtglfdnfojpdkjaaGreatDoor


section
variable {P : Program} {ops : Array Oper} {Q : Exit → Act → World → Prop} {md : Region.Mode} {S : World → Prop}

/-- Whatever order is picked from here on, and S holds behind every operation but number z. -/
def wpAnyZ (P : Program) (md : Region.Mode) (ops : Array Oper) (Q : Exit → Act → World → Prop) (S : World → Prop) (z : Nat) : Nat → Array Bool → Act → World → Prop
  | 0, listed, a, w => Region.ready md ops listed = [] ∧ Q .normal a w
  | fuel + 1, listed, a, w =>
    (Region.ready md ops listed = [] → Q .normal a w) ∧
    ∀ i ∈ Region.ready md ops listed, wpOp P ops Q i (fun a' w' => (i ≠ z → S w') ∧ wpAnyZ P md ops Q S z fuel (listed.setIfInBounds i true) a' w') a w

theorem wpAny_of_Z {z : Nat} : ∀ (fuel : Nat) (listed : Array Bool) (a : Act) (w : World), wpAnyZ P md ops Q S z fuel listed a w → wpAny P md ops Q fuel listed a w
  | 0, _, _, _, h => h
  | fuel + 1, _, _, _, h => ⟨h.1, fun i hi => wpOp_mono (fun a' w' h' => wpAny_of_Z fuel _ a' w' h'.2) (h.2 i hi)⟩

theorem wpAnyZ_first {z i : Nat} {oi : Oper} {v : Value} (hi : ops[i]? = some oi) (hsel : ∀ (j : Nat) (o : Oper) cs b, ops[j]? = some o → o.op ≠ .select cs b)
    (hQ : ∀ c a w, Q (.panic c) (a.put oi.dst v) w → Q (.panic c) a w) (hz : Region.waitsFor md ops z i = true) :
    ∀ (fuel : Nat) (listed : Array Bool) (a : Act) (w : World),
      (∀ j oj, ops[j]? = some oj → j ≠ i → listed.getD j true = false → (∀ e ∈ oj.after, Region.binds md e = true → e.on ≠ i) → oi.apart ops oj = true) →
      i ∈ Region.ready md ops listed → YieldsIf P ops S oi v a → S w →
      wpAnyZ P md ops Q S z fuel (listed.setIfInBounds i true) (a.put oi.dst v) w → wpAnyZ P md ops Q S z (fuel + 1) listed a w := by
  intro fuel
  induction fuel with
  | zero =>
    intro listed a w _ hr hy hS H
    refine ⟨fun h => (by rw [h] at hr; cases hr), fun j hj => ?_⟩
    by_cases hji : j = i
    · subst hji; exact hy.wpOp hi hS ⟨fun _ => hS, H⟩
    · have := ready_mono hj hji
      rw [H.1] at this
      cases this
  | succ fuel ih =>
    intro listed a w hfree hr hy hS H
    refine ⟨fun h => (by rw [h] at hr; cases hr), fun j hj => ?_⟩
    by_cases hji : j = i
    · subst hji; exact hy.wpOp hi hS ⟨fun _ => hS, H⟩
    · have h1 := H.2 j (ready_mono hj hji)
      obtain ⟨hjun, oj, hoj, hall⟩ := mem_ready.1 hj
      have hnot : ∀ e ∈ oj.after, Region.binds md e = true → e.on ≠ i := fun e he hb heq => by
        have h1 := hall e he hb
        have h0 := (mem_ready.1 hr).1
        rw [heq] at h1
        rcases Nat.lt_or_ge i listed.size with h' | h'
        · simp [h'] at h0 h1; rw [h0] at h1; cases h1
        · simp [Array.getElem?_eq_none h'] at h1
      have hjz : j ≠ z := fun e => by
        subst e
        obtain ⟨oz, hoz, e, he, hb, hon⟩ := Region.waitsFor_spec hz
        have : oz = oj := Option.some.inj (hoz.symm.trans hoj)
        subst this
        exact hnot e he hb hon
      have h2 := wpOp_putIf hoj (hfree j oj hoj hji hjun hnot) (fun cs b => hsel i oi cs b hi) (fun cs b => hsel j oj cs b hoj) hQ hy h1
      have hfree' : ∀ k ok, ops[k]? = some ok → k ≠ i → (listed.setIfInBounds j true).getD k true = false →
          (∀ e ∈ ok.after, Region.binds md e = true → e.on ≠ i) → oi.apart ops ok = true := fun k ok hk hki hun hno => by
        refine hfree k ok hk hki ?_ hno
        by_cases hjk : j = k
        · subst hjk; exact hjun
        · rw [getD_set_ne true hjk] at hun; exact hun
      refine wpOp_mono (fun a' w' h3 => ⟨h3.2.1, ih (listed.setIfInBounds j true) a' w' hfree' (ready_mono hr (Ne.symm hji)) h3.1 (h3.2.1 hjz) ?_⟩) h2
      rw [Array.setIfInBounds_comm _ _ hji]
      exact h3.2.2

/-- Take number i first. -/
theorem wpAnyZ_take {z i : Nat} {oi : Oper} {v : Value} {fuel : Nat} {listed : Array Bool} {a : Act} {w : World} (hi : ops[i]? = some oi)
    (hs : Region.noSelect ops = true) (hf : Region.free md ops listed i = true) (hr : (Region.ready md ops listed).contains i = true) (hz : Region.waitsFor md ops z i = true)
    (hQ : ∀ c a w, Q (.panic c) (a.put oi.dst v) w → Q (.panic c) a w) (hw : Region.wanted oi (yielded ops a.tmps) = true) (hy : ∀ w, S w → (execOp a.eval oi).run P w = .ok (.value v) w) (hS : S w)
    (h : wpAnyZ P md ops Q S z fuel (listed.setIfInBounds i true) (a.put oi.dst v) w) : wpAnyZ P md ops Q S z (fuel + 1) listed a w :=
  wpAnyZ_first hi (Region.noSelect_spec hs) hQ hz fuel listed a w (Region.free_spec hi hf) (by simpa using hr) (.inl ⟨hw, hy⟩) hS h
/-- One alone may come up. -/
theorem wpAnyZ_one {z i : Nat} {o : Oper} {fuel : Nat} {listed : Array Bool} {a : Act} {w : World} (hr : Region.ready md ops listed = [i]) (ho : ops[i]? = some o)
    (h : ∀ K' : Act → World → Prop, Shut (∀ a w, (i ≠ z → S w) → wpAnyZ P md ops Q S z fuel (listed.setIfInBounds i true) a w → K' a w) → if Region.wanted o (yielded ops a.tmps) = true then Oper.wp P o a w K' Q else K' (a.put o.dst undef) w) : wpAnyZ P md ops Q S z (fuel + 1) listed a w :=
  ⟨fun h0 => absurd (hr ▸ h0) (by simp), fun j hj => by
    rw [hr] at hj
    obtain rfl : j = i := by simpa using hj
    exact wpOp_step ho (fun K' hK => h K' (fun a w hS hW => hK a w ⟨hS, hW⟩))⟩
theorem wpAnyZ_done {z : Nat} {listed : Array Bool} {a : Act} {w : World} (hr : Region.ready md ops listed = []) (h : Q .normal a w) :
    ∀ fuel, wpAnyZ P md ops Q S z fuel listed a w
  | 0 => ⟨hr, h⟩
  | _ + 1 => ⟨fun _ => h, by rw [hr]; simp⟩
theorem wp_region_Z {id : Nat} (z : Nat) (S : World → Prop) {a : Act} {w : World} (hm : P.follows .mixedOrders = true)
    (h : wpAnyZ P .any ops (NoPanic Q) S z ops.size (Array.replicate ops.size false) a w.drew) : (Code.region id ops true).wp P Q a w :=
  wp_region_noPanic (wp_region_any hm (wpAny_of_Z _ _ _ _ h))
end
end Go.Proofs.YtglfdnfojpdkjaaGreatDoor
/- admit.Drain: the first length. Printed by gen_t14.py (turned from K3). -/
namespace Go.Proofs.YtglfdnfojpdkjaaGreatDoor
open Go.RowKit

set_option maxRecDepth 100000 in
set_option maxHeartbeats 3200000 in
theorem drain_min {G : List Nat} {E : Nat → Addr} (s : Srv) (a : Option Addr) (l : List Srv) (c : Nat) (w : World) (hE : EAt G E w) (i0 : 4 ∈ G) (i1 : 5 ∈ G) (i3 : 7 ∈ G) (hl : SrvsAt w a l) (hm : l.length ≤ maxLen) (hk : kidsErr s l = none) :
    Calls Tryz.prog 121 #[.agg #[.int .i64 s.k, .int .i64 s.q, .int .i64 s.t], .slice a l.length c] w fun e w' => e = .returned (.tuple #[.int .i64 (drainI s l), .nilIface]) ∧ Gr w w' := by
  obtain ⟨D, hD⟩ : ∃ D, D = drainI s l := ⟨_, rfl⟩
  rw [← hD]
  have hDo : ∀ d : Nat, 1 ≤ d → d ≤ 4096 → reqsI l d ≤ givI (rowI s) d → (∀ k : Nat, 1 ≤ k → k < d → ¬ reqsI l k ≤ givI (rowI s) k) → D = d := fun d h1 h2 h3 h4 => by rw [hD]; exact drainI_of h1 h2 h3 h4
  clear hD
  have hki : ∀ w', Gr w w' → Calls Tryz.prog 116 #[.agg #[.int .i64 s.k, .int .i64 s.q, .int .i64 s.t], .slice a l.length c] w' fun e w'' => e = .returned .nilIface ∧ Gr w' w'' := fun w' g => by
    have := kids_any s a l c w' (hE.gr g) i0 i1 i3 (hl.gr g) hm
    rw [hk] at this
    exact this
  have hds := drain_some hk
  obtain ⟨hp, hs, -, -⟩ := kids_parts hk
  obtain ⟨hal, h8⟩ := srvErr_none hs
  have hrq := fun w' (n : Nat) (hn : n ≤ 4096) (g : Gr w w') => drequests_yes a l c n w' (hl.gr g) (srvErr_chk hs (n := (n : Int)) ⟨by omega, by omega⟩)
  have hbo := fun w' (n : Nat) (hn : n ≤ 4096) => bound_yes s n w' hp (⟨by omega, by omega⟩ : LenOk (n : Int))
  have hrb : ∀ n : Nat, n ≤ 4096 → 0 ≤ reqsI l n ∧ reqsI l n ≤ 8 * (1099511627776 + 512) := fun n hn => by
    have := sumI_bd (fun s => reqI s n) l (1099511627776 + 512) (fun x hx => req_bd ((Srv.leg_iff _).1 (List.all_eq_true.1 hal x hx)) ⟨by omega, by omega⟩)
    have h9 : (l.length : Int) ≤ 8 := by omega
    unfold reqsI
    omega
  have hgb : ∀ n : Nat, n ≤ 4096 → 0 ≤ givI (rowI s) n ∧ givI (rowI s) n ≤ n := fun n hn => ⟨giv_nonneg (rowI_ok hp) _, giv_le (rowI_ok hp) (by omega)⟩
  have hE0 := fun w' (g : Gr w w') => (hE.gr g)
  unfold reqsI at *
  replace hDo := Lib.hid hDo
  replace hki := Lib.hid hki
  replace hrq := Lib.hid hrq
  replace hbo := Lib.hid hbo
  replace hds := Lib.hid hds
  replace hrb := Lib.hid hrb
  replace hgb := Lib.hid hgb
  replace hk := Lib.hid hk
  replace hp := Lib.hid hp
  replace hs := Lib.hid hs
  replace hal := Lib.hid hal
  go_enter Tryz.func121, Tryz.ntmps121
  go_wp2_with fail
  refine (hki.out _ ((Gr.refl w).alloc _)).mono ?_
  rintro e w1 ⟨rfl, g1⟩
  obtain ⟨c1, f1, s1⟩ := g1.cells
  try simp only [size_drewN] at c1 f1 s1
  try simp only [World.size_alloc] at c1 f1 s1
  try simp only [World.size_drew] at c1 f1 s1
  try simp only [World.size_setCell] at c1 f1 s1
  have z10 : w.heap.size < w1.heap.size := by omega
  have y10 : w.heap.size ≤ w1.heap.size := by omega
  have k10 := fun o => c1 (w.heap.size) o (by omega)
  have j10 := fun o => f1 (w.heap.size) o (by omega)
  go_wp2_with fail
  have gA : Gr w w1 := ((Gr.refl w).alloc _).trans g1
  go_loopw [7] (fun lv wr => ∃ n : Nat, 1 ≤ n ∧ n ≤ 4096 ∧ lv = .int .i64 n ∧ Hid (∀ k : Nat, 1 ≤ k → k < n → ¬ sumI (fun s => reqI s k) l ≤ givI (rowI s) k) ∧ Gr w1 wr) (fun lv _ => 4097 - (intOf lv).toNat)
  case atStart => exact ⟨1, by omega, by omega, rfl, Lib.hid (fun k h1 h2 => by omega), Gr.refl _⟩
  case round =>
    obtain ⟨n, hn1, hn2, rfl, hmin, hg⟩ := hrel
    have gall : Gr w wr := gA.trans hg
    obtain ⟨cg, fg, sg⟩ := hg.cells
    have k1 := fun o => cg w.heap.size o (by omega)
    clear cg fg
    have hnt : decide ((n : Int) ≤ 4096) = true := decide_eq_true (by omega)
    obtain ⟨r1, r2⟩ := hrb.out n hn2
    obtain ⟨r3, r4⟩ := hgb.out n hn2
    have hrq1 := hrq.out wr n hn2 gall
    have hbo1 := fun w' => hbo.out w' n hn2
    replace hrq1 := Lib.hid hrq1
    replace hbo1 := Lib.hid hbo1
    by_cases hle : sumI (fun s => reqI s n) l ≤ givI (rowI s) n
    · have hle2 : decide (sumI (fun s => reqI s n) l ≤ givI (rowI s) n) = true := decide_eq_true hle
      obtain ⟨v, hv⟩ : ∃ v, v = sumI (fun s => reqI s n) l := ⟨_, rfl⟩
      obtain ⟨u, hu⟩ : ∃ u, u = givI (rowI s) n := ⟨_, rfl⟩
      rw [← hv] at hrq1 hle2 r1 r2 hle
      rw [← hu] at hbo1 hle2 r3 r4 hle
      replace hv := Lib.hid hv
      replace hu := Lib.hid hu
      go_wp2_with fail
      refine hrq1.out.mono ?_
      rintro e w2 ⟨rfl, g2⟩
      obtain ⟨c2, f2, s2⟩ := g2.cells
      have k2 := fun o => c2 w.heap.size o (by omega)
      clear c2 f2
      go_wp2_with fail
      refine (hbo1.out _).mono ?_
      rintro e w3 ⟨rfl, g3⟩
      go_wp2_with fail
      go_ret2
      exact ⟨by rw [hDo.out n hn1 hn2 (by rw [← hv.out, ← hu.out]; exact hle) hmin.out]; rfl, (gall.trans g2).trans g3⟩
    · have hlt : n < 4096 := by
        by_cases h : n < 4096
        · exact h
        · obtain rfl : n = 4096 := by omega
          exact absurd hds.out hle
      have hle2 : decide (sumI (fun s => reqI s n) l ≤ givI (rowI s) n) = false := decide_eq_false hle
      have hle3 : givI (rowI s) n < sumI (fun s => reqI s n) l := by omega
      have hmin2 : ∀ k : Nat, 1 ≤ k → k < n + 1 → ¬ sumI (fun s => reqI s k) l ≤ givI (rowI s) k := fun k h1 h2 => by
        by_cases hkn : k = n
        · rw [hkn]; exact hle
        · exact hmin.out k h1 (by omega)
      replace hmin2 := Lib.hid hmin2
      clear hle
      obtain ⟨v, hv⟩ : ∃ v, v = sumI (fun s => reqI s n) l := ⟨_, rfl⟩
      obtain ⟨u, hu⟩ : ∃ u, u = givI (rowI s) n := ⟨_, rfl⟩
      rw [← hv] at hrq1 hle2 r1 r2 hle3
      rw [← hu] at hbo1 hle2 r3 r4 hle3
      replace hv := Lib.hid hv
      replace hu := Lib.hid hu
      go_wp2_with fail
      refine hrq1.out.mono ?_
      rintro e w2 ⟨rfl, g2⟩
      obtain ⟨c2, f2, s2⟩ := g2.cells
      have k2 := fun o => c2 w.heap.size o (by omega)
      clear c2 f2
      go_wp2_with fail
      refine (hbo1.out _).mono ?_
      rintro e w3 ⟨rfl, g3⟩
      go_wp2_with fail
      go_roundw
      case rel => exact ⟨n + 1, by omega, by omega, by go_num, Lib.hid (fun k h1 h2 => by have := hmin2.out k h1 h2; omega), (hg.trans g2).trans g3⟩
      case measure => simp [intOf]; omega

set_option maxHeartbeats 800000 in
theorem drain_no {G : List Nat} {E : Nat → Addr} (s : Srv) (a : Option Addr) (l : List Srv) (c : Nat) (w : World) (hE : EAt G E w) (i0 : 4 ∈ G) (i1 : 5 ∈ G) (i3 : 7 ∈ G) (hl : SrvsAt w a l) (hm : l.length ≤ maxLen) {g : Nat} (hk : kidsErr s l = some g) :
    Calls Tryz.prog 121 #[.agg #[.int .i64 s.k, .int .i64 s.q, .int .i64 s.t], .slice a l.length c] w fun e w' => e = .returned (.tuple #[.int .i64 0, .iface 258 (.pointer (some (E g)))]) ∧ Gr w w' := by
  have hki : ∀ w', Gr w w' → Calls Tryz.prog 116 #[.agg #[.int .i64 s.k, .int .i64 s.q, .int .i64 s.t], .slice a l.length c] w' fun e w'' => e = .returned (.iface 258 (.pointer (some (E g)))) ∧ Gr w' w'' := fun w' gg => by
    have := kids_any s a l c w' (hE.gr gg) i0 i1 i3 (hl.gr gg) hm
    rw [hk] at this
    exact this
  replace hki := Lib.hid hki
  replace hk := Lib.hid hk
  go_enter Tryz.func121, Tryz.ntmps121
  go_wp2_with fail
  refine (hki.out _ ((Gr.refl w).alloc _)).mono ?_
  rintro e w1 ⟨rfl, g1⟩
  obtain ⟨c1, f1, s1⟩ := g1.cells
  try simp only [size_drewN] at c1 f1 s1
  try simp only [World.size_alloc] at c1 f1 s1
  try simp only [World.size_drew] at c1 f1 s1
  try simp only [World.size_setCell] at c1 f1 s1
  have z10 : w.heap.size < w1.heap.size := by omega
  have y10 : w.heap.size ≤ w1.heap.size := by omega
  have k10 := fun o => c1 (w.heap.size) o (by omega)
  have j10 := fun o => f1 (w.heap.size) o (by omega)
  go_wp2_with fail
  go_ret2
  exact ⟨rfl, ((Gr.refl w).alloc _).trans g1⟩
end Go.Proofs.YtglfdnfojpdkjaaGreatDoor
/- The tree that an order works on. -/
namespace Go.Proofs.YtglfdnfojpdkjaaGreatDoor
open Go.RowKit

theorem flat_set {α : Type} {k : Nat} {enc : α → List Value} (hk : ∀ s, (enc s).length = k) {M : List α} {i : Nat} {x y : α} (hx : M[i]? = some x) {j : Nat} (hj : j < k) {v : Value} (h : (enc x).set j v = enc y) : (M.flatMap enc).set (i * k + j) v = (M.set i y).flatMap enc := by
  have hi := get_lt hx
  have h1 : M = M.take i ++ x :: M.drop (i + 1) := by
    obtain ⟨h3, h4⟩ := List.getElem?_eq_some_iff.1 hx
    rw [← h4, ← List.drop_eq_getElem_cons h3, List.take_append_drop]
  have hl : (M.take i).length = i := by simp; omega
  have hA : ((M.take i).flatMap enc).length = i * k := by
    have : ∀ l : List α, (l.flatMap enc).length = l.length * k := by
      intro l
      induction l with
      | nil => simp
      | cons a t ih => rw [List.flatMap_cons, List.length_append, ih, hk, List.length_cons, Nat.succ_mul]; omega
    rw [this, hl]
  have h2 : M.flatMap enc = (M.take i).flatMap enc ++ (enc x ++ (M.drop (i + 1)).flatMap enc) := by
    conv => lhs; rw [h1]
    rw [List.flatMap_append, List.flatMap_cons]
  have h3 : M.set i y = M.take i ++ y :: M.drop (i + 1) := by
    conv => lhs; rw [h1]
    rw [List.set_append, if_neg (by omega), hl, Nat.sub_self]
    rfl
  rw [h2, List.set_append, if_neg (by rw [hA]; omega), hA, Nat.add_sub_cancel_left, List.set_append, if_pos (by rw [hk]; exact hj), h, h3, List.flatMap_append, List.flatMap_cons]
/-- Rows of unlike types lie in unlike blocks. -/
theorem owns_apart {w : World} {B B' : Nat} {e e' : TypeId} {k k' : Nat} {v v' : Value} {n n' : Nat} {xs xs' : List Value} (h : w.ownsRow B e k v n xs) (h' : w.ownsRow B' e' k' v' n' xs') (he : e ≠ e') {g : Nat} (hg : v.ownBlock = some g) : v'.ownBlock ≠ some g := by
  intro hg'
  rcases h.2 with ⟨h1, _⟩ | ⟨g1, c1, u1, h1, _, h3, _⟩
  · rw [h1] at hg; cases hg
  · rcases h'.2 with ⟨h1', _⟩ | ⟨g2, c2, u2, h1', _, h3', _⟩
    · rw [h1'] at hg'; cases hg'
    · rw [h1] at hg; rw [h1'] at hg'
      simp [Value.ownBlock] at hg hg'
      subst hg hg'
      rw [h3] at h3'
      injection h3' with h4
      injection h4 with _ h5 _
      exact he h5
theorem owns_blk {w : World} {B : Nat} {e t : TypeId} {k : Nat} {v : Value} {n : Nat} {xs : List Value} {b : Nat} {cs : Array Value} (h : w.ownsRow B e k v n xs) (hb : Blk w b cs t) (he : e ≠ t) : v.ownBlock ≠ some b := by
  intro hg
  rcases h.2 with ⟨h1, _⟩ | ⟨g1, c1, u1, h1, _, h3, _⟩
  · rw [h1] at hg; cases hg
  · rw [h1] at hg
    simp [Value.ownBlock] at hg
    subst hg
    rw [show w.heap[g1]? = _ from hb] at h3
    injection h3 with h4
    injection h4 with _ h5 _
    exact he h5.symm
theorem NdM.ok.but {K : Nat → Prop} {S : List Nat} {w w' : World} {x : NdM} (h : x.ok K w) (g : GrX S w w') (hd : ∀ ad, x.a = some ad → x.e.tasks ≠ [] → ad.block ∉ S) : x.ok K w' := by
  have h1 : x.ok (fun b => K b ∧ b ∉ S) w := ⟨⟨h.1.1, fun ad ha ht => ⟨h.1.2 ad ha ht, hd ad ha ht⟩⟩, h.2⟩
  exact (h1.grx g (fun y hy hk => hk.2 hy)).mono (fun b _ hk => hk.1)
/-- Another row of ghosts. -/
theorem OwnT.ghosts {B : Nat} {S : List Nat} {w w' : World} {T : TM} (h : OwnT B w T) (g : GrX S w w') (hn : ∀ k, (Value.slice T.an T.N.length T.cn).ownBlock = some k → k ∉ S) (ht : ∀ x ∈ T.N, ∀ ad, x.a = some ad → x.e.tasks ≠ [] → ad.block ∉ S) {G : List Gh} {ag : Option Addr} {cg : Nat} (l n : Int) (hg : w'.ownsRow B 65 5 (.slice ag G.length cg) G.length (G.flatMap Gh.cells)) (hd : ∀ x ∈ T.N, ∀ ad, x.a = some ad → x.e.tasks ≠ [] → (Value.slice ag G.length cg).ownBlock ≠ some ad.block) (hl : G.length ≤ 1000000) : OwnT B w' ⟨T.N, T.an, T.cn, G, ag, cg, l, n⟩ :=
  ⟨owns_gx h.n g hn, hg, fun x hx => (h.k x hx).but g (ht x hx), h.d, hd, fun x hx ad ha htt o => by rw [g.frozen ((h.k x hx).1.1.lt ha htt) (ht x hx ad ha htt)]; exact h.f x hx ad ha htt o, h.l1, hl⟩
/-- The tree of an order: its box, its rows; all made since B. -/
structure OutAt (B : Nat) (w : World) (tb : Nat) (T : TM) : Prop where
  o : Blk w tb T.row 35
  t : OwnT B w T
  hB : B ≤ tb
  b : ∀ x ∈ T.N, ∀ ad, x.a = some ad → x.e.tasks ≠ [] → ad.block ≠ tb
theorem OutAt.gr {B : Nat} {w w' : World} {tb : Nat} {T : TM} (h : OutAt B w tb T) (g : Gr w w') : OutAt B w' tb T := ⟨h.o.gr g, h.t.gr g, h.hB, h.b⟩
theorem OutAt.any {B : Nat} {w : World} {tb : Nat} {T : TM} (h : OutAt B w tb T) : TreeAt Any w T := h.t.at.any
theorem owns_srvs {w : World} {B : Nat} {a : Option Addr} {c : Nat} {l : List Srv} (h : w.ownsRow B 24 3 (.slice a l.length c) l.length (l.flatMap Srv.cells)) : SrvsAt w a l := by
  obtain ⟨a1, c1, e1, r1, _, _⟩ := recs_of_owns Srv.cells_len h
  injection e1 with p1 _ _
  subst p1
  exact recs_srvs r1
end Go.Proofs.YtglfdnfojpdkjaaGreatDoor
