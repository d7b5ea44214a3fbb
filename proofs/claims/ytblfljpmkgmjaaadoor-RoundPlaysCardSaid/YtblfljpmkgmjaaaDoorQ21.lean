/- Copies of ledgers whose rows can be written. Printed by gen_q20.py (turned from G2). The reference's Copy, with rows that can be written. Printed by gen_q21.py (turned from G4). -/
import Derived.Test.YtblfljpmkgmjaaaDoorQ19
namespace Go.Proofs.YtblfljpmkgmjaaaDoor
open Go.RowKit

theorem owns_free {w : World} {base : Nat} {e : TypeId} {size : Nat} {n m c : Nat} {xs : List Value} {a : Option Addr} {ad : Addr} (h : w.ownsRow base e size (.slice a m c) n xs) (ha : a = some ad) (o : Nat) : w.frozen? ⟨ad.block, o, none⟩ = false := by
  obtain ⟨_, hn | ⟨g, cap, cur, hv, _, hh, _⟩⟩ := h
  · rw [ha] at hn; cases hn.1
  · rw [ha] at hv; cases hv; simp [World.frozen?, hh]
def NewPF (l : List Tsk) (w : World) (e : Ending) (w' : World) : Prop :=
  ∃ a c, e = .returned (.slice a l.length c) ∧ RecsIn (fun b => w.heap.size ≤ b) 4 Tsk.cells w' a l ∧ (a = none → c = 0) ∧ l.length ≤ c ∧ c ≤ maxLen ∧ Gr w w' ∧ ∀ ad, a = some ad → l ≠ [] → ∀ o, w'.frozen? ⟨ad.block, o, none⟩ = false
def LedPF (L : List EntM) (w : World) (e : Ending) (w' : World) : Prop :=
  ∃ a c L', e = .returned (.slice a L.length c) ∧ L'.map (·.e) = L.map (·.e) ∧ LedM (fun b => w.heap.size ≤ b) w' a L' ∧ (a = none → c = 0) ∧ L.length ≤ c ∧ c ≤ maxLen ∧ Gr w w' ∧
    w'.ownsRow w.heap.size 36 10 (.slice a L'.length c) L'.length (L'.flatMap EntM.cells) ∧ (∀ x ∈ L', ∀ ad, x.a = some ad → x.e.tasks ≠ [] → (Value.slice a L'.length c).ownBlock ≠ some ad.block) ∧ ∀ x ∈ L', ∀ ad, x.a = some ad → x.e.tasks ≠ [] → ∀ o, w'.frozen? ⟨ad.block, o, none⟩ = false
set_option maxRecDepth 100000 in
set_option maxHeartbeats 800000 in
theorem cloneF_any (a : Option Addr) (c : Nat) (l : List Tsk) (w : World) (h : RecsAt 4 Tsk.cells w a l) (hc : a = none → c = 0) (hm : l.length * 32 ≤ 140737488351232) :
    Calls Tryd.prog 49 #[.slice a l.length c] w (NewPF l w) := by
  obtain ⟨i72, hi, hz0, hz1, hz2⟩ := info_parts Tryd.infoTsk
  have hmm : l.length ≤ maxLen := by unfold maxLen; omega
  have n2 : l.length * 32 ≤ 140737488355328 := by omega
  have hnil := fun (w : World) a n c => Lib.run_eql_slice_nil (P := Tryd.prog) w 32 65 a n c 0 0 Tryd.underlying32
  cases a with
  | none =>
    obtain rfl := hc rfl
    obtain rfl : l = [] := by
      cases l with
      | nil => rfl
      | cons y r => obtain ⟨b, off, hh, _⟩ := h 0 y rfl; cases hh
    go_enter Tryd.func49, Tryd.ntmps49
    go_wp2_with fail
    go_ret
    exact ⟨none, 0, rfl, RecsIn.nil _ _ _ _ _, (fun _ => rfl), Nat.le_refl _, Nat.zero_le _, Gr.refl _, fun _ h => by cases h⟩
  | some ad =>
    go_enter Tryd.func49, Tryd.ntmps49
    go_wp2_with (at_builtin; refine wpList_copyN (k := 4) (enc := Tsk.cells) rfl _ _ 32 rfl 65 i72 _ 32 Tryd.underlying32 hi hz0 hz1 hz2 rfl (by decide) Tsk.cells_len Tsk.cells_one w.heap.size rfl rfl (some ad) c l rfl h hc hmm n2 ?_; intro v1 w1 hown g1)
    obtain ⟨a', c', rfl, hr, hn, hb⟩ := recs_of_owns Tsk.cells_len hown
    have hcap := owns_cap hown rfl
    go_wp2_with fail
    go_ret
    exact ⟨a', c', rfl, ⟨hr, fun x hx _ => hb x hx⟩, hn, hcap.1, hcap.2, g1, fun ad ha _ o => owns_free hown ha o⟩

set_option maxRecDepth 100000 in
set_option maxHeartbeats 1600000 in
theorem copiedF_any (a : Option Addr) (c : Nat) (L : List EntM) (w : World) (h : LedM Any w a L) (hm : L.length * 96 ≤ 140737488351232) :
    Calls Tryd.prog 53 #[.slice a L.length c] w (LedPF L w) := by
  obtain ⟨i36, hi, hz0, hz1, hz2⟩ := info_parts Tryd.infoEnt
  go_enter Tryd.func53, Tryd.ntmps53
  go_wp2_with fail
  go_loopw [8, 3] (fun iv v wr => ∃ (k : Nat) (L' : List EntM), k ≤ L.length ∧ iv = .int .i64 k ∧ L'.length = k ∧ L'.map (·.e) = (L.take k).map (·.e) ∧ wr.ownsRow w.heap.size 36 10 v L'.length (L'.flatMap EntM.cells) ∧ (∀ x ∈ L', x.ok (fun b => w.heap.size ≤ b) wr ∧ ∀ ad, x.a = some ad → x.e.tasks ≠ [] → v.ownBlock ≠ some ad.block) ∧ (∀ x ∈ L', ∀ ad, x.a = some ad → x.e.tasks ≠ [] → ∀ o, wr.frozen? ⟨ad.block, o, none⟩ = false) ∧ Gr w wr) (fun iv _ _ => L.length - (intOf iv).toNat)
  case atStart => exact ⟨0, [], Nat.zero_le _, rfl, rfl, rfl, World.ownsRow_nil _ _ _ _, (fun _ h => by cases h), (fun _ h => by cases h), Gr.refl _⟩
  case round =>
    obtain ⟨k, L', hk, rfl, hlen, hmap, hown, hoks, hfr, hg⟩ := hrel
    replace hlen := Lib.hid hlen
    replace hmap := Lib.hid hmap
    replace hoks := Lib.hid hoks
    replace hfr := Lib.hid hfr
    by_cases hlt : k < L.length
    · obtain ⟨x, hx⟩ := get_some L k hlt
      obtain ⟨b, off, rfl, hb, _, c0, c1, c2, c3, c4, c5, c6, c7, c8, c9⟩ := (h.gr hg).get hx
      have hxo := (h.gr hg).2 x (get_mem hx)
      have hxm := ent_cap hxo
      replace hx := Lib.hid hx
      go_wp2_with fail
      refine (cloneF_any x.a x.c x.e.tasks _ (hxo.gr ((Gr.refl wr).alloc x.obj)).1.1 hxo.2.1 hxm).mono ?_
      rintro e w1 ⟨a1, d1, rfl, r1, m1, q1, q2, g1, fr1⟩
      replace fr1 := Lib.hid fr1
      obtain ⟨k1, j1, s1⟩ := g1.cells
      simp only [World.size_alloc] at k1 j1 s1
      have z1 : wr.heap.size < w1.heap.size := by omega
      have kk := fun o => k1 wr.heap.size o (by omega)
      have jj := fun o => j1 wr.heap.size o (by omega)
      clear k1 j1
      -- the world behind the store, and behind the literal
      have gW : Gr wr (w1.setCell ⟨wr.heap.size, 8, none⟩ (.slice a1 x.e.tasks.length d1)) := (((Gr.refl wr).alloc x.obj).trans g1).setCell (Nat.le_refl _) _
      have hown2 := owns_gr hown gW
      have hl63 : L'.length + 1 ≤ maxLen := by rw [hlen.out]; unfold maxLen; omega
      have hby : (L'.length + 1) * 96 ≤ 140737488355328 := by rw [hlen.out]; omega
      have n3 : w.heap.size ≤ (w1.setCell ⟨wr.heap.size, 8, none⟩ (.slice a1 x.e.tasks.length d1)).heap.size := by have := hg.size; simp; omega
      have hrec := recs_alloc EntM.cells_len (w1.setCell ⟨wr.heap.size, 8, none⟩ (.slice a1 x.e.tasks.length d1)) [⟨x.e, a1, d1⟩] 36 (List.toArray (x.e.cells a1 d1)) (by simp)
      rw [World.size_setCell] at hrec
      have hbl := owns_lt hown
      replace hbl := Lib.hid hbl
      go_wp2_with (at_builtin; refine wpList_append_one (k := 10) (enc := EntM.cells) rfl _ _ 41 rfl w.heap.size 36 i36 _ 96 Tryd.underlying41 hi hz0 hz1 hz2 rfl (by decide) EntM.cells_len EntM.cells_one _ L' rfl (hown2.alloc _) w1.heap.size 1 ⟨x.e, a1, d1⟩ rfl hrec hl63 hby (le_alloc n3 _) ?_; intro v1 w2 hown1 hgr1 hat)
      have gW2 : Gr wr ((w1.setCell ⟨wr.heap.size, 8, none⟩ (.slice a1 x.e.tasks.length d1)).alloc (EntM.obj ⟨x.e, a1, d1⟩)) := gW.alloc _
      have hg2 : Gr w w2 := (hg.trans gW2).grown hgr1 (fun g hg' => (hbl.out g hg').2)
      have hx1 : RecsAt 4 Tsk.cells ((w1.setCell ⟨wr.heap.size, 8, none⟩ (.slice a1 x.e.tasks.length d1)).alloc (EntM.obj ⟨x.e, a1, d1⟩)) a1 x.e.tasks := by
        have hr1 := r1.grx (T := [wr.heap.size]) (((GrX.refl [wr.heap.size] w1).set (.inl (List.mem_singleton.2 rfl)) (.slice a1 x.e.tasks.length d1) : GrX [wr.heap.size] w1 (w1.setCell ⟨wr.heap.size, 8, none⟩ (.slice a1 x.e.tasks.length d1))).alloc (EntM.obj ⟨x.e, a1, d1⟩)) (fun y hy => by rw [List.mem_singleton.1 hy]; simp)
        exact hr1.1
      have hnew : ∀ ad, a1 = some ad → x.e.tasks ≠ [] → wr.heap.size < ad.block := fun ad h1 h2 => by have := r1.2 ad h1 h2; simp at this; omega
      have hoks2 : ∀ y ∈ L' ++ [⟨x.e, a1, d1⟩], y.ok (fun b => w.heap.size ≤ b) w2 ∧ ∀ ad, y.a = some ad → y.e.tasks ≠ [] → v1.ownBlock ≠ some ad.block := by
        intro y hy
        rcases List.mem_append.1 hy with hy | hy
        · obtain ⟨o1, o2⟩ := hoks.out y hy
          refine ⟨(o1.gr gW2).grown hgr1 o2, fun ad ha ht => ?_⟩
          rcases hat with hat | hat
          · rw [hat]; exact o2 ad ha ht
          · rw [hat]
            intro e
            have e2 : ((w1.setCell ⟨wr.heap.size, 8, none⟩ (.slice a1 x.e.tasks.length d1)).alloc (EntM.obj ⟨x.e, a1, d1⟩)).heap.size = ad.block := Option.some.inj e
            have e3 := o1.1.1.lt ha ht
            have e4 := gW2.size
            omega
        · rw [List.mem_singleton.1 hy]
          refine ⟨⟨⟨hx1.grown hgr1 (fun ad ha ht e => ?_), fun ad ha ht => ?_⟩, m1, q1, q2, hxm⟩, fun ad ha ht e => ?_⟩
          · have := (hbl.out _ e).1; have := hnew ad ha ht; omega
          · have := hnew ad ha ht; have := hg.size; omega
          · rcases hat with hat | hat
            · rw [hat] at e; have := (hbl.out _ e).1; have := hnew ad ha ht; omega
            · rw [hat] at e
              have e2 : ((w1.setCell ⟨wr.heap.size, 8, none⟩ (.slice a1 x.e.tasks.length d1)).alloc (EntM.obj ⟨x.e, a1, d1⟩)).heap.size = ad.block := Option.some.inj e
              have e3 := hx1.lt ha ht
              omega
      have hfr2 : ∀ y ∈ L' ++ [⟨x.e, a1, d1⟩], ∀ ad, y.a = some ad → y.e.tasks ≠ [] → ∀ o, w2.frozen? ⟨ad.block, o, none⟩ = false := by
        intro y hy ad ha ht o
        rcases List.mem_append.1 hy with hy | hy
        · obtain ⟨o1, o2⟩ := hoks.out y hy
          have e3 := o1.1.1.lt ha ht
          rw [hgr1.frozen_far ⟨ad.block, o, none⟩ (Nat.lt_of_lt_of_le e3 gW2.size) (fun e => o2 ad ha ht e.symm), gW2.cells.2.1 _ _ e3]
          exact hfr.out y hy ad ha ht o
        · rw [List.mem_singleton.1 hy] at ha ht
          have e3 := hx1.lt ha ht
          have e4 := r1.1.lt ha ht
          rw [hgr1.frozen_far ⟨ad.block, o, none⟩ e3 (fun e => by have h5 : ad.block < wr.heap.size := (hbl.out _ e.symm).1; have := hnew ad ha ht; omega)]
          rw [((Gr.refl (w1.setCell ⟨wr.heap.size, 8, none⟩ (.slice a1 x.e.tasks.length d1))).alloc (EntM.obj ⟨x.e, a1, d1⟩)).cells.2.1 _ _ (by simpa using e4)]
          rw [World.frozen?_setCell]
          exact fr1.out ad ha ht o
      replace hfr2 := Lib.hid hfr2
      clear hat hgr1 r1 hx1 hnew hbl hoks
      have hmap2 : (L' ++ [(⟨x.e, a1, d1⟩ : EntM)]).map (·.e) = (L.take (k + 1)).map (·.e) := by rw [take_snoc hx.out, List.map_append, List.map_append, hmap.out]; rfl
      replace hmap2 := Lib.hid hmap2
      replace hoks2 := Lib.hid hoks2
      go_wp2_with fail
      go_roundw
      case rel => exact ⟨k + 1, L' ++ [⟨x.e, a1, d1⟩], by omega, by go_num, by rw [List.length_append, hlen.out]; rfl, hmap2.out, hown1, hoks2.out, hfr2.out, hg2⟩
      case measure => simp [intOf]; omega
    · have hall : L.take k = L := List.take_of_length_le (by omega)
      obtain ⟨a', c', hv, hr, hn, hbb⟩ := recs_of_owns EntM.cells_len hown
      have hcap := owns_cap hown hv
      have hL : L'.length = L.length := by have := hlen.out; omega
      subst hv
      rw [hL] at hcap
      have hvl : Value.slice a' L'.length c' = .slice a' L.length c' := by rw [hL]
      rw [hvl]
      go_wp2_with fail
      go_ret
      exact ⟨a', c', L', rfl, by rw [hmap.out, hall], ⟨⟨hr, fun x hx _ => hbb x hx⟩, fun x hx => (hoks.out x hx).1⟩, hn, hcap.1, hcap.2, hg, hown, fun x hx => (hoks.out x hx).2, hfr.out⟩


set_option maxRecDepth 100000 in
set_option maxHeartbeats 1600000 in
theorem rcopyF_any (a : Option Addr) (c : Nat) (L : List EntM) (w : World) (h : LedM Any w a L) (hm : L.length * 96 ≤ 140737488351232) :
    Calls Tryd.prog 20 #[.slice a L.length c] w (LedPF L w) := by
  obtain ⟨i36, hi, hz0, hz1, hz2⟩ := info_parts Tryd.infoEnt
  obtain ⟨i72, hj, hy0, hy1, hy2⟩ := info_parts Tryd.infoTsk
  go_enter Tryd.func20, Tryd.ntmps20
  go_wp2_with fail
  go_loopw [9, 3] (fun iv v wr => ∃ (k : Nat) (L' : List EntM), k ≤ L.length ∧ iv = .int .i64 k ∧ L'.length = k ∧ L'.map (·.e) = (L.take k).map (·.e) ∧ wr.ownsRow w.heap.size 36 10 v L'.length (L'.flatMap EntM.cells) ∧ (∀ x ∈ L', x.ok (fun b => w.heap.size ≤ b) wr ∧ ∀ ad, x.a = some ad → x.e.tasks ≠ [] → v.ownBlock ≠ some ad.block) ∧ (∀ x ∈ L', ∀ ad, x.a = some ad → x.e.tasks ≠ [] → ∀ o, wr.frozen? ⟨ad.block, o, none⟩ = false) ∧ Gr w wr) (fun iv _ _ => L.length - (intOf iv).toNat)
  case atStart => exact ⟨0, [], Nat.zero_le _, rfl, rfl, rfl, owns_empty _ _ _ _ rfl _ (Nat.le_refl _), (fun _ h => by cases h), (fun _ h => by cases h), (Gr.refl _).alloc _⟩
  case round =>
    obtain ⟨k, L', hk, rfl, hlen, hmap, hown, hoks, hfr, hg⟩ := hrel
    replace hlen := Lib.hid hlen
    replace hmap := Lib.hid hmap
    replace hoks := Lib.hid hoks
    replace hfr := Lib.hid hfr
    by_cases hlt : k < L.length
    · obtain ⟨x, hx⟩ := get_some L k hlt
      obtain ⟨b, off, rfl, hb, _, c0, c1, c2, c3, c4, c5, c6, c7, c8, c9⟩ := (h.gr hg).get hx
      have hxo := (h.gr hg).2 x (get_mem hx)
      have hxm := ent_cap hxo
      replace hx := Lib.hid hx
      have hx32 : x.e.tasks.length * 32 ≤ 140737488355328 := by omega
      have hx63 : x.e.tasks.length ≤ maxLen := by unfold maxLen; omega
      go_upto_region 6 with (at_builtin; refine wpList_copyN (k := 4) (enc := Tsk.cells) rfl _ _ 32 rfl 65 i72 _ 32 Tryd.underlying32 hj hy0 hy1 hy2 rfl (by decide) Tsk.cells_len Tsk.cells_one (wr.heap.size + 1) (by simp) rfl x.a x.c x.e.tasks rfl (hxo.gr ((Gr.refl wr).alloc x.obj)).1.1 hxo.2.1 hx63 hx32 ?_; intro v1 w1 hownt g1; obtain ⟨a1, d1, rfl, hrt, m1, hbt⟩ := recs_of_owns Tsk.cells_len hownt; obtain ⟨k1, j1, s1⟩ := g1.cells; simp only [World.size_alloc] at k1 j1 s1; have z1 : wr.heap.size < w1.heap.size := (by omega); have kk := fun o => k1 wr.heap.size o (by omega); have jj := fun o => j1 wr.heap.size o (by omega); clear k1 j1)
      obtain ⟨q1, q2⟩ := owns_cap hownt rfl
      have r1 : RecsIn (fun b => (wr.alloc x.obj).heap.size ≤ b) 4 Tsk.cells w1 a1 x.e.tasks := ⟨hrt, fun y hy _ => hbt y hy⟩
      have fr1 : ∀ ad, a1 = some ad → x.e.tasks ≠ [] → ∀ o, w1.frozen? ⟨ad.block, o, none⟩ = false := fun ad ha _ o => owns_free hownt ha o
      replace fr1 := Lib.hid fr1
      clear hownt hrt hbt
      -- the world behind the store, and behind the literal
      have gW : Gr wr (w1.setCell ⟨wr.heap.size, 8, none⟩ (.slice a1 x.e.tasks.length d1)) := (((Gr.refl wr).alloc x.obj).trans g1).setCell (Nat.le_refl _) _
      have hown2 := owns_gr hown gW
      have hl63 : L'.length + 1 ≤ maxLen := by rw [hlen.out]; unfold maxLen; omega
      have hby : (L'.length + 1) * 96 ≤ 140737488355328 := by rw [hlen.out]; omega
      have n3 : w.heap.size ≤ (w1.setCell ⟨wr.heap.size, 8, none⟩ (.slice a1 x.e.tasks.length d1)).heap.size := by have := hg.size; simp; omega
      have hrec := recs_alloc EntM.cells_len (w1.setCell ⟨wr.heap.size, 8, none⟩ (.slice a1 x.e.tasks.length d1)) [⟨x.e, a1, d1⟩] 36 (List.toArray (x.e.cells a1 d1)) (by simp)
      rw [World.size_setCell] at hrec
      have hbl := owns_lt hown
      replace hbl := Lib.hid hbl
      go_wp2_with (at_builtin; refine wpList_append_one (k := 10) (enc := EntM.cells) rfl _ _ 41 rfl w.heap.size 36 i36 _ 96 Tryd.underlying41 hi hz0 hz1 hz2 rfl (by decide) EntM.cells_len EntM.cells_one _ L' rfl (hown2.alloc _) w1.heap.size 1 ⟨x.e, a1, d1⟩ rfl hrec hl63 hby (le_alloc n3 _) ?_; intro v1 w2 hown1 hgr1 hat)
      have gW2 : Gr wr ((w1.setCell ⟨wr.heap.size, 8, none⟩ (.slice a1 x.e.tasks.length d1)).alloc (EntM.obj ⟨x.e, a1, d1⟩)) := gW.alloc _
      have hg2 : Gr w w2 := (hg.trans gW2).grown hgr1 (fun g hg' => (hbl.out g hg').2)
      have hx1 : RecsAt 4 Tsk.cells ((w1.setCell ⟨wr.heap.size, 8, none⟩ (.slice a1 x.e.tasks.length d1)).alloc (EntM.obj ⟨x.e, a1, d1⟩)) a1 x.e.tasks := by
        have hr1 := r1.grx (T := [wr.heap.size]) (((GrX.refl [wr.heap.size] w1).set (.inl (List.mem_singleton.2 rfl)) (.slice a1 x.e.tasks.length d1) : GrX [wr.heap.size] w1 (w1.setCell ⟨wr.heap.size, 8, none⟩ (.slice a1 x.e.tasks.length d1))).alloc (EntM.obj ⟨x.e, a1, d1⟩)) (fun y hy => by rw [List.mem_singleton.1 hy]; simp)
        exact hr1.1
      have hnew : ∀ ad, a1 = some ad → x.e.tasks ≠ [] → wr.heap.size < ad.block := fun ad h1 h2 => by have := r1.2 ad h1 h2; simp at this; omega
      have hoks2 : ∀ y ∈ L' ++ [⟨x.e, a1, d1⟩], y.ok (fun b => w.heap.size ≤ b) w2 ∧ ∀ ad, y.a = some ad → y.e.tasks ≠ [] → v1.ownBlock ≠ some ad.block := by
        intro y hy
        rcases List.mem_append.1 hy with hy | hy
        · obtain ⟨o1, o2⟩ := hoks.out y hy
          refine ⟨(o1.gr gW2).grown hgr1 o2, fun ad ha ht => ?_⟩
          rcases hat with hat | hat
          · rw [hat]; exact o2 ad ha ht
          · rw [hat]
            intro e
            have e2 : ((w1.setCell ⟨wr.heap.size, 8, none⟩ (.slice a1 x.e.tasks.length d1)).alloc (EntM.obj ⟨x.e, a1, d1⟩)).heap.size = ad.block := Option.some.inj e
            have e3 := o1.1.1.lt ha ht
            have e4 := gW2.size
            omega
        · rw [List.mem_singleton.1 hy]
          refine ⟨⟨⟨hx1.grown hgr1 (fun ad ha ht e => ?_), fun ad ha ht => ?_⟩, m1, q1, q2, hxm⟩, fun ad ha ht e => ?_⟩
          · have := (hbl.out _ e).1; have := hnew ad ha ht; omega
          · have := hnew ad ha ht; have := hg.size; omega
          · rcases hat with hat | hat
            · rw [hat] at e; have := (hbl.out _ e).1; have := hnew ad ha ht; omega
            · rw [hat] at e
              have e2 : ((w1.setCell ⟨wr.heap.size, 8, none⟩ (.slice a1 x.e.tasks.length d1)).alloc (EntM.obj ⟨x.e, a1, d1⟩)).heap.size = ad.block := Option.some.inj e
              have e3 := hx1.lt ha ht
              omega
      have hfr2 : ∀ y ∈ L' ++ [⟨x.e, a1, d1⟩], ∀ ad, y.a = some ad → y.e.tasks ≠ [] → ∀ o, w2.frozen? ⟨ad.block, o, none⟩ = false := by
        intro y hy ad ha ht o
        rcases List.mem_append.1 hy with hy | hy
        · obtain ⟨o1, o2⟩ := hoks.out y hy
          have e3 := o1.1.1.lt ha ht
          rw [hgr1.frozen_far ⟨ad.block, o, none⟩ (Nat.lt_of_lt_of_le e3 gW2.size) (fun e => o2 ad ha ht e.symm), gW2.cells.2.1 _ _ e3]
          exact hfr.out y hy ad ha ht o
        · rw [List.mem_singleton.1 hy] at ha ht
          have e3 := hx1.lt ha ht
          have e4 := r1.1.lt ha ht
          rw [hgr1.frozen_far ⟨ad.block, o, none⟩ e3 (fun e => by have h5 : ad.block < wr.heap.size := (hbl.out _ e.symm).1; have := hnew ad ha ht; omega)]
          rw [((Gr.refl (w1.setCell ⟨wr.heap.size, 8, none⟩ (.slice a1 x.e.tasks.length d1))).alloc (EntM.obj ⟨x.e, a1, d1⟩)).cells.2.1 _ _ (by simpa using e4)]
          rw [World.frozen?_setCell]
          exact fr1.out ad ha ht o
      replace hfr2 := Lib.hid hfr2
      clear hat hgr1 r1 hx1 hnew hbl hoks
      have hmap2 : (L' ++ [(⟨x.e, a1, d1⟩ : EntM)]).map (·.e) = (L.take (k + 1)).map (·.e) := by rw [take_snoc hx.out, List.map_append, List.map_append, hmap.out]; rfl
      replace hmap2 := Lib.hid hmap2
      replace hoks2 := Lib.hid hoks2
      go_wp2_with fail
      go_roundw
      case rel => exact ⟨k + 1, L' ++ [⟨x.e, a1, d1⟩], by omega, by go_num, by rw [List.length_append, hlen.out]; rfl, hmap2.out, hown1, hoks2.out, hfr2.out, hg2⟩
      case measure => simp [intOf]; omega
    · have hall : L.take k = L := List.take_of_length_le (by omega)
      obtain ⟨a', c', hv, hr, hn, hbb⟩ := recs_of_owns EntM.cells_len hown
      have hcap := owns_cap hown hv
      have hL : L'.length = L.length := by have := hlen.out; omega
      subst hv
      rw [hL] at hcap
      have hvl : Value.slice a' L'.length c' = .slice a' L.length c' := by rw [hL]
      rw [hvl]
      go_wp2_with fail
      go_ret
      exact ⟨a', c', L', rfl, by rw [hmap.out, hall], ⟨⟨hr, fun x hx _ => hbb x hx⟩, fun x hx => (hoks.out x hx).1⟩, hn, hcap.1, hcap.2, hg, hown, fun x hx => (hoks.out x hx).2, hfr.out⟩
end Go.Proofs.YtblfljpmkgmjaaaDoor
