/- Ballots; slices.Clone of tasks; copied of a ledger. -/
import Derived.Test.YtglfdnfojpdkjaaGreatDoorJ1
import Derived.Lib.SliceRun
import Derived.Deep.DeepCutAuto
import Derived.Deep.AppendLies
namespace Go.Proofs.YtglfdnfojpdkjaaGreatDoor
open Go.RowKit

/-- A slice that was made anew. -/
def NewP {α : Type} (k : Nat) (enc : α → List Value) (l : List α) (w : World) (e : Ending) (w' : World) : Prop :=
  ∃ a c, e = .returned (.slice a l.length c) ∧ RecsIn (fun b => w.heap.size ≤ b) k enc w' a l ∧ (a = none → c = 0) ∧ l.length ≤ c ∧ c ≤ maxLen ∧ Gr w w'
theorem owns_cap {w : World} {base : Nat} {e : TypeId} {size : Nat} {v : Value} {n : Nat} {xs : List Value} {a : Option Addr} {m c : Nat} (h : w.ownsRow base e size v n xs) (hv : v = .slice a m c) : n ≤ c ∧ c ≤ maxLen := by
  obtain ⟨_, ⟨h1, h2⟩ | ⟨g, cap, cur, h1, _, _, h2, h3, _⟩⟩ := h
  · rw [hv] at h1; cases h1; exact ⟨by omega, Nat.zero_le _⟩
  · rw [hv] at h1; cases h1; exact ⟨h2, h3⟩

set_option maxRecDepth 100000 in
set_option maxHeartbeats 800000 in
theorem clone_any (a : Option Addr) (c : Nat) (l : List Tsk) (w : World) (h : RecsAt 4 Tsk.cells w a l) (hc : a = none → c = 0) (hm : l.length * 32 ≤ 140737488351232) :
    Calls Tryz.prog 95 #[.slice a l.length c] w (NewP 4 Tsk.cells l w) := by
  obtain ⟨i72, hi, hz0, hz1, hz2⟩ := info_parts Tryz.infoTsk
  have hmm : l.length ≤ maxLen := by unfold maxLen; omega
  have n2 : l.length * 32 ≤ 140737488355328 := by omega
  have hnil := fun (w : World) a n c => Lib.run_eql_slice_nil (P := Tryz.prog) w 25 115 a n c 0 0 Tryz.underlying25
  cases a with
  | none =>
    obtain rfl := hc rfl
    obtain rfl : l = [] := by
      cases l with
      | nil => rfl
      | cons y r => obtain ⟨b, off, hh, _⟩ := h 0 y rfl; cases hh
    go_enter Tryz.func95, Tryz.ntmps95
    go_wp2_with fail
    go_ret
    exact ⟨none, 0, rfl, RecsIn.nil _ _ _ _ _, (fun _ => rfl), Nat.le_refl _, Nat.zero_le _, Gr.refl _⟩
  | some ad =>
    go_enter Tryz.func95, Tryz.ntmps95
    go_wp2_with (at_builtin; refine wpList_copyN (k := 4) (enc := Tsk.cells) rfl _ _ 25 rfl 115 i72 _ 32 Tryz.underlying25 hi hz0 hz1 hz2 rfl (by decide) Tsk.cells_len Tsk.cells_one w.heap.size rfl rfl (some ad) c l rfl h hc hmm n2 ?_; intro v1 w1 hown g1)
    obtain ⟨a', c', rfl, hr, hn, hb⟩ := recs_of_owns Tsk.cells_len hown
    have hcap := owns_cap hown rfl
    go_wp2_with fail
    go_ret
    exact ⟨a', c', rfl, ⟨hr, fun x hx _ => hb x hx⟩, hn, hcap.1, hcap.2, g1⟩

theorem Tryz.infoEnt : (Tryz.prog.info? 60).map (fun i => (i.zero, i.size, i.bytes)) = some (some (.agg #[.int .i64 0, .int .i64 0, .int .i64 0, .int .i64 0, .int .i64 0, .int .i64 0, .int .i64 0, .int .i64 0, .slice none 0 0, .int .i64 0]), 10, 96) := by kernel_rfl

/-- A ledger that was made anew, of the same entries. -/
def LedP (L : List EntM) (w : World) (e : Ending) (w' : World) : Prop :=
  ∃ a c L', e = .returned (.slice a L.length c) ∧ L'.map (·.e) = L.map (·.e) ∧ LedM (fun b => w.heap.size ≤ b) w' a L' ∧ (a = none → c = 0) ∧ L.length ≤ c ∧ c ≤ maxLen ∧ Gr w w' ∧
    w'.ownsRow w.heap.size 60 10 (.slice a L'.length c) L'.length (L'.flatMap EntM.cells) ∧ ∀ x ∈ L', ∀ ad, x.a = some ad → x.e.tasks ≠ [] → (Value.slice a L'.length c).ownBlock ≠ some ad.block

theorem ent_cap {K : Nat → Prop} {w : World} {x : EntM} (h : x.ok K w) : x.e.tasks.length * 32 ≤ 140737488351232 := h.2.2.2.2
abbrev EntM.obj (x : EntM) : Obj := .cells #[.int .i64 x.e.cl, .int .i64 x.e.nu, .int .i64 x.e.kd, .int .i64 x.e.id, .int .i64 x.e.srv.k, .int .i64 x.e.srv.q, .int .i64 x.e.srv.t, .int .i64 x.e.po, .slice x.a x.e.tasks.length x.c, .int .i64 x.e.at_] 60

end Go.Proofs.YtglfdnfojpdkjaaGreatDoor
/- order: fit, Check of a delete order, Place, copied; almonerref09: Copy, Same, SameLedger where they are the same. -/
namespace Go.Proofs.YtglfdnfojpdkjaaGreatDoor
open Go.RowKit

abbrev intCG (d : Int) : List Value := [.int .i64 d]
theorem intCG_len (d : Int) : (intCG d).length = 1 := rfl
theorem intCG_one (d : Int) : ∀ u ∈ intCG d, u.oneCell' = true := by intro u hu; simp at hu; subst hu; rfl
theorem int_get {w : World} {a : Option Addr} {l : List Int} (h : RecsAt 1 intCG w a l) {i : Nat} {d : Int} (hd : l[i]? = some d) : ∃ b off, a = some ⟨b, off, none⟩ ∧ b < w.heap.size ∧ w.cell? ⟨b, off + i, none⟩ = some (.int .i64 d) := by
  obtain ⟨b, off, ha, hb, hc⟩ := h i d hd
  exact ⟨b, off, ha, hb, by simpa using hc 0 _ rfl⟩
def okN (n : Int) : Bool := decide (0 ≤ n ∧ n ≤ 1099511627776)
theorem okN_iff {n : Int} : okN n = true ↔ 0 ≤ n ∧ n ≤ 1099511627776 := decide_eq_true_iff

set_option maxHeartbeats 800000 in
theorem fit_any (a : Option Addr) (l : List Int) (c : Nat) (w : World) (h : RecsAt 1 intCG w a l) (hm : l.length ≤ maxLen) :
    Calls Tryz.prog 102 #[.slice a l.length c] w fun e w' => e = .returned (.bool (l.all okN)) ∧ w = w' := by
  unfold maxLen at hm
  go_enter Tryz.func102, Tryz.ntmps102
  go_wp2_with fail
  go_loopw [7] (fun iv wr => ∃ k : Nat, k ≤ l.length ∧ iv = .int .i64 k ∧ (l.take k).all okN = true ∧ wr = w) (fun iv _ => l.length - (intOf iv).toNat)
  case atStart => exact ⟨0, Nat.zero_le _, rfl, rfl, rfl⟩
  case round =>
    obtain ⟨k, hk, rfl, hall, rfl⟩ := hrel
    replace hall := Lib.hid hall
    by_cases hlt : k < l.length
    · obtain ⟨d, hd⟩ := get_some l k hlt
      obtain ⟨b, off, rfl, hb, c0⟩ := int_get h hd
      by_cases hok : 0 ≤ d ∧ d ≤ 1099511627776
      · have hts := take_snoc hd
        have hall2 : (l.take (k + 1)).all okN = true := by rw [hts, List.all_append, hall.out]; simp [okN_iff.2 hok]
        obtain ⟨o1, o2⟩ := hok
        clear hts
        replace hall2 := Lib.hid hall2
        go_wp2_with fail
        go_roundw
        case rel => exact ⟨k + 1, by omega, by go_num, hall2.out, trivial⟩
        case measure => simp [intOf]; omega
      · have hno : l.all okN = false := by
          cases hh : l.all okN
          · rfl
          · have := List.all_eq_true.1 hh d (get_mem hd)
            exact absurd (okN_iff.1 this) hok
        replace hno := Lib.hid hno
        by_cases h0 : d < 0
        · go_wp2_with fail
          go_ret
          exact ⟨by rw [hno.out]; rfl, rfl⟩
        · have h1 : 1099511627776 < d := by omega
          go_wp2_with fail
          go_ret
          exact ⟨by rw [hno.out]; rfl, rfl⟩
    · have : l.take k = l := List.take_of_length_le (by omega)
      have hall2 := hall.out
      rw [this] at hall2
      replace hall2 := Lib.hid hall2
      go_wp2_with fail
      go_ret
      exact ⟨by rw [hall2.out]; rfl, rfl⟩

/-- The order of a delete. -/
def isDel (e : Ent) : Prop := e.kd = 3 ∧ e.srv = ⟨0, 0, 0⟩ ∧ e.po = 0 ∧ e.tasks = [] ∧ 0 ≤ e.at_ ∧ e.at_ ≤ 1099511627776 ∧ 0 ≤ e.id ∧ e.id ≤ 1099511627776

set_option maxHeartbeats 800000 in
theorem checkOrder_del (i t : Int) (a : Option Addr) (c : Nat) (w : World) (hi0 : 0 ≤ i) (hi1 : i ≤ 1099511627776) (ht0 : 0 ≤ t) (ht1 : t ≤ 1099511627776) :
    Calls Tryz.prog 77 #[.agg #[.int .i64 3, .int .i64 i, .int .i64 0, .int .i64 0, .int .i64 0, .int .i64 0, .slice a 0 c, .int .i64 t]] w fun e w' => e = .returned (.bool true) ∧ Gr w w' := by
  have hf := fun (b : Nat) (w : World) h => fit_any (some ⟨b, 0, none⟩) [t, i] 2 w h (by unfold maxLen; simp)
  have hall : [t, i].all okN = true := by simp [okN_iff]; omega
  rw [hall] at hf
  replace hf := Lib.hid hf
  clear hall
  go_enter Tryz.func77, Tryz.ntmps77
  go_wp2_with fail
  refine (hf.out (w.heap.size + 1) _ ?_).mono ?_
  · have := recs_alloc intCG_len (w.alloc (.cells #[.int .i64 3, .int .i64 i, .int .i64 0, .int .i64 0, .int .i64 0, .int .i64 0, .slice a 0 c, .int .i64 t] 27)) [t, i] 3 #[.int .i64 t, .int .i64 i] rfl
    simpa using this
  rintro e w1 ⟨rfl, rfl⟩
  go_wp2_with fail
  go_ret
  exact ⟨rfl, ((Gr.refl _).alloc _).alloc _⟩

set_option maxHeartbeats 800000 in
theorem check_del (e : Ent) (a : Option Addr) (c : Nat) (w : World) (h : isDel e) (hc0 : 0 ≤ e.cl) (hc1 : e.cl < 16) (hn0 : 1 ≤ e.nu) (hn1 : e.nu ≤ 1099511627776) :
    Calls Tryz.prog 57 #[.agg #[.int .i64 e.cl, .int .i64 e.nu, .int .i64 e.kd, .int .i64 e.id, .int .i64 e.srv.k, .int .i64 e.srv.q, .int .i64 e.srv.t, .int .i64 e.po, .slice a e.tasks.length c, .int .i64 e.at_]] w fun e w' => e = .returned .nilIface ∧ Gr w w' := by
  obtain ⟨h1, h2, h3, h4, h5, h6, h7, h8⟩ := h
  obtain ⟨cl, nu, kd, id, srv, po, tasks, at_⟩ := e
  dsimp only at *
  subst h1 h2 h3 h4
  go_enter Tryz.func57, Tryz.ntmps57
  go_wp2_with fail
  refine (checkOrder_del id at_ a c _ h7 h8 h5 h6).mono ?_
  rintro e wa ⟨rfl, ga⟩
  obtain ⟨ca, fa, sa⟩ := ga.cells
  try simp only [size_drewN] at ca fa sa
  try simp only [World.size_alloc] at ca fa sa
  try simp only [World.size_drew] at ca fa sa
  try simp only [World.size_setCell] at ca fa sa
  have za0 : w.heap.size < wa.heap.size := by omega
  have ya0 : w.heap.size ≤ wa.heap.size := by omega
  have ka0 := fun o => ca (w.heap.size) o (by omega)
  have ja0 := fun o => fa (w.heap.size) o (by omega)
  go_wp2_with fail
  go_ret
  exact ⟨rfl, ((Gr.refl _).alloc _).trans ga⟩
end Go.Proofs.YtglfdnfojpdkjaaGreatDoor
/- order.copied; almonerref09.Copy. -/
namespace Go.Proofs.YtglfdnfojpdkjaaGreatDoor
open Go.RowKit

set_option maxRecDepth 100000 in
set_option maxHeartbeats 1600000 in
theorem rcopy_any (a : Option Addr) (c : Nat) (L : List EntM) (w : World) (h : LedM Any w a L) (hm : L.length * 96 ≤ 140737488351232) :
    Calls Tryz.prog 6 #[.slice a L.length c] w (LedP L w) := by
  obtain ⟨i36, hi, hz0, hz1, hz2⟩ := info_parts Tryz.infoEnt
  obtain ⟨i72, hj, hy0, hy1, hy2⟩ := info_parts Tryz.infoTsk
  go_enter Tryz.func6, Tryz.ntmps6
  go_wp2_with fail
  go_loopw [9, 3] (fun iv v wr => ∃ (k : Nat) (L' : List EntM), k ≤ L.length ∧ iv = .int .i64 k ∧ L'.length = k ∧ L'.map (·.e) = (L.take k).map (·.e) ∧ wr.ownsRow w.heap.size 60 10 v L'.length (L'.flatMap EntM.cells) ∧ (∀ x ∈ L', x.ok (fun b => w.heap.size ≤ b) wr ∧ ∀ ad, x.a = some ad → x.e.tasks ≠ [] → v.ownBlock ≠ some ad.block) ∧ Gr w wr) (fun iv _ _ => L.length - (intOf iv).toNat)
  case atStart => exact ⟨0, [], Nat.zero_le _, rfl, rfl, rfl, owns_empty _ _ _ _ rfl _ (Nat.le_refl _), (fun _ h => by cases h), (Gr.refl _).alloc _⟩
  case round =>
    obtain ⟨k, L', hk, rfl, hlen, hmap, hown, hoks, hg⟩ := hrel
    replace hlen := Lib.hid hlen
    replace hmap := Lib.hid hmap
    replace hoks := Lib.hid hoks
    by_cases hlt : k < L.length
    · obtain ⟨x, hx⟩ := get_some L k hlt
      obtain ⟨b, off, rfl, hb, _, c0, c1, c2, c3, c4, c5, c6, c7, c8, c9⟩ := (h.gr hg).get hx
      have hxo := (h.gr hg).2 x (get_mem hx)
      have hxm := ent_cap hxo
      replace hx := Lib.hid hx
      have hx32 : x.e.tasks.length * 32 ≤ 140737488355328 := by omega
      have hx63 : x.e.tasks.length ≤ maxLen := by unfold maxLen; omega
      go_upto_region 6 with (at_builtin; refine wpList_copyN (k := 4) (enc := Tsk.cells) rfl _ _ 25 rfl 115 i72 _ 32 Tryz.underlying25 hj hy0 hy1 hy2 rfl (by decide) Tsk.cells_len Tsk.cells_one (wr.heap.size + 1) (by simp) rfl x.a x.c x.e.tasks rfl (hxo.gr ((Gr.refl wr).alloc x.obj)).1.1 hxo.2.1 hx63 hx32 ?_; intro v1 w1 hownt g1; obtain ⟨a1, d1, rfl, hrt, m1, hbt⟩ := recs_of_owns Tsk.cells_len hownt; obtain ⟨k1, j1, s1⟩ := g1.cells; simp only [World.size_alloc] at k1 j1 s1; have z1 : wr.heap.size < w1.heap.size := (by omega); have kk := fun o => k1 wr.heap.size o (by omega); have jj := fun o => j1 wr.heap.size o (by omega); clear k1 j1)
      obtain ⟨q1, q2⟩ := owns_cap hownt rfl
      have r1 : RecsIn (fun b => (wr.alloc x.obj).heap.size ≤ b) 4 Tsk.cells w1 a1 x.e.tasks := ⟨hrt, fun y hy _ => hbt y hy⟩
      clear hownt hrt hbt
      -- the world behind the store, and behind the literal
      have gW : Gr wr (w1.setCell ⟨wr.heap.size, 8, none⟩ (.slice a1 x.e.tasks.length d1)) := (((Gr.refl wr).alloc x.obj).trans g1).setCell (Nat.le_refl _) _
      have hown2 := owns_gr hown gW
      have hl63 : L'.length + 1 ≤ maxLen := by rw [hlen.out]; unfold maxLen; omega
      have hby : (L'.length + 1) * 96 ≤ 140737488355328 := by rw [hlen.out]; omega
      have n3 : w.heap.size ≤ (w1.setCell ⟨wr.heap.size, 8, none⟩ (.slice a1 x.e.tasks.length d1)).heap.size := by have := hg.size; simp; omega
      have hrec := recs_alloc EntM.cells_len (w1.setCell ⟨wr.heap.size, 8, none⟩ (.slice a1 x.e.tasks.length d1)) [⟨x.e, a1, d1⟩] 60 (List.toArray (x.e.cells a1 d1)) (by simp)
      rw [World.size_setCell] at hrec
      have hbl := owns_lt hown
      replace hbl := Lib.hid hbl
      go_wp2_with (at_builtin; refine wpList_append_one (k := 10) (enc := EntM.cells) rfl _ _ 22 rfl w.heap.size 60 i36 _ 96 Tryz.underlying22 hi hz0 hz1 hz2 rfl (by decide) EntM.cells_len EntM.cells_one _ L' rfl (hown2.alloc _) w1.heap.size 1 ⟨x.e, a1, d1⟩ rfl hrec hl63 hby (le_alloc n3 _) ?_; intro v1 w2 hown1 hgr1 hat)
      have gW2 : Gr wr ((w1.setCell ⟨wr.heap.size, 8, none⟩ (.slice a1 x.e.tasks.length d1)).alloc (EntM.obj ⟨x.e, a1, d1⟩)) := gW.alloc _
      have hg2 : Gr w w2 := (hg.trans gW2).grown hgr1 (fun g hg' => (hbl.out g hg').2)
      have hx1 : RecsAt 4 Tsk.cells ((w1.setCell ⟨wr.heap.size, 8, none⟩ (.slice a1 x.e.tasks.length d1)).alloc (EntM.obj ⟨x.e, a1, d1⟩)) a1 x.e.tasks := by
        have hr1 := r1.grx (T := [wr.heap.size]) (((GrX.refl [wr.heap.size] w1).set (.inl (List.mem_singleton.2 rfl)) (.slice a1 x.e.tasks.length d1) : GrX [wr.heap.size] w1 (w1.setCell ⟨wr.heap.size, 8, none⟩ (.slice a1 x.e.tasks.length d1))).alloc (EntM.obj ⟨x.e, a1, d1⟩)) (fun y hy => by rw [List.mem_singleton.1 hy]; simp)
        exact hr1.1
      have hnew : ∀ ad, a1 = some ad → x.e.tasks ≠ [] → wr.heap.size < ad.block := fun ad h1 h2 => by have := r1.2 ad h1 h2; simp at this; omega
      have hoks2 : ∀ y ∈ L' ++ [⟨x.e, a1, d1⟩], y.ok (fun b => w.heap.size ≤ b) w2 ∧ ∀ ad, y.a = some ad → y.e.tasks ≠ [] → v1.ownBlock ≠ some ad.block := by
        intro y hy
        rcases List.mem_append.1 hy with hy | hy
        · obtain ⟨o1, o2⟩ := hoks.out y hy
          refine ⟨(o1.gr gW2).grown hgr1 o2, fun ad ha ht => ?_⟩
          rcases hat with hat | hat
          · rw [hat]; exact o2 ad ha ht
          · rw [hat]
            intro e
            have e2 : ((w1.setCell ⟨wr.heap.size, 8, none⟩ (.slice a1 x.e.tasks.length d1)).alloc (EntM.obj ⟨x.e, a1, d1⟩)).heap.size = ad.block := Option.some.inj e
            have e3 := o1.1.1.lt ha ht
            have e4 := gW2.size
            omega
        · rw [List.mem_singleton.1 hy]
          refine ⟨⟨⟨hx1.grown hgr1 (fun ad ha ht e => ?_), fun ad ha ht => ?_⟩, m1, q1, q2, hxm⟩, fun ad ha ht e => ?_⟩
          · have := (hbl.out _ e).1; have := hnew ad ha ht; omega
          · have := hnew ad ha ht; have := hg.size; omega
          · rcases hat with hat | hat
            · rw [hat] at e; have := (hbl.out _ e).1; have := hnew ad ha ht; omega
            · rw [hat] at e
              have e2 : ((w1.setCell ⟨wr.heap.size, 8, none⟩ (.slice a1 x.e.tasks.length d1)).alloc (EntM.obj ⟨x.e, a1, d1⟩)).heap.size = ad.block := Option.some.inj e
              have e3 := hx1.lt ha ht
              omega
      clear hat hgr1 r1 hx1 hnew hbl hoks
      have hmap2 : (L' ++ [(⟨x.e, a1, d1⟩ : EntM)]).map (·.e) = (L.take (k + 1)).map (·.e) := by rw [take_snoc hx.out, List.map_append, List.map_append, hmap.out]; rfl
      replace hmap2 := Lib.hid hmap2
      replace hoks2 := Lib.hid hoks2
      go_wp2_with fail
      go_roundw
      case rel => exact ⟨k + 1, L' ++ [⟨x.e, a1, d1⟩], by omega, by go_num, by rw [List.length_append, hlen.out]; rfl, hmap2.out, hown1, hoks2.out, hg2⟩
      case measure => simp [intOf]; omega
    · have hall : L.take k = L := List.take_of_length_le (by omega)
      obtain ⟨a', c', hv, hr, hn, hbb⟩ := recs_of_owns EntM.cells_len hown
      have hcap := owns_cap hown hv
      have hL : L'.length = L.length := by have := hlen.out; omega
      subst hv
      rw [hL] at hcap
      have hvl : Value.slice a' L'.length c' = .slice a' L.length c' := by rw [hL]
      rw [hvl]
      go_wp2_with fail
      go_ret
      exact ⟨a', c', L', rfl, by rw [hmap.out, hall], ⟨⟨hr, fun x hx _ => hbb x hx⟩, fun x hx => (hoks.out x hx).1⟩, hn, hcap.1, hcap.2, hg, hown, fun x hx => (hoks.out x hx).2⟩
end Go.Proofs.YtglfdnfojpdkjaaGreatDoor
/- order.Place; almonerref09.Same, SameLedger where they are the same. -/
namespace Go.Proofs.YtglfdnfojpdkjaaGreatDoor
open Go.RowKit

def isKey (cl nu : Int) (e : Ent) : Bool := e.cl == cl && e.nu == nu

set_option maxHeartbeats 800000 in
theorem keyOf_any (x : EntM) (w : World) :
    Calls Tryz.prog 54 #[.agg #[.int .i64 x.e.cl, .int .i64 x.e.nu, .int .i64 x.e.kd, .int .i64 x.e.id, .int .i64 x.e.srv.k, .int .i64 x.e.srv.q, .int .i64 x.e.srv.t, .int .i64 x.e.po, .slice x.a x.e.tasks.length x.c, .int .i64 x.e.at_]] w fun e w' => e = .returned (.agg #[.int .i64 x.e.cl, .int .i64 x.e.nu]) ∧ Gr w w' := by
  go_enter Tryz.func54, Tryz.ntmps54
  go_wp2
  refine bodyPost_ret (v := .agg #[.int .i64 x.e.cl, .int .i64 x.e.nu]) (by simp [results, Tryz.results54, go_sem]) rfl ⟨rfl, ?_⟩
  repeat (first | exact Gr.refl _ | apply Gr.alloc | apply Gr.drew | apply Gr.drewN | (refine Gr.setCell ?_ (by simp) _) | (refine Gr.trans ?_ (by assumption)))

set_option maxHeartbeats 800000 in
theorem place1_any (x : EntM) (cl nu : Int) (kb : Nat) (w : World) (h0 : w.cell? ⟨kb, 0, none⟩ = some (.int .i64 cl)) (h1 : w.cell? ⟨kb, 1, none⟩ = some (.int .i64 nu)) (hb : kb < w.heap.size) :
    Calls Tryz.prog 53 #[.agg #[.int .i64 x.e.cl, .int .i64 x.e.nu, .int .i64 x.e.kd, .int .i64 x.e.id, .int .i64 x.e.srv.k, .int .i64 x.e.srv.q, .int .i64 x.e.srv.t, .int .i64 x.e.po, .slice x.a x.e.tasks.length x.c, .int .i64 x.e.at_], .pointer (some ⟨kb, 0, none⟩)] w fun e w' => e = .returned (.bool (isKey cl nu x.e)) ∧ Gr w w' := by
  have r0 : (w.alloc x.obj).cell? ⟨kb, 0, none⟩ = some (.int .i64 cl) := by simp [go_sem, *]
  have r1 : (w.alloc x.obj).cell? ⟨kb, 1, none⟩ = some (.int .i64 nu) := by simp [go_sem, *]
  have hk := keyOf_any x
  replace hk := Lib.hid hk
  have hcase : (x.e.cl = cl ∧ x.e.nu = nu) ∨ ¬ x.e.cl = cl ∨ (x.e.cl = cl ∧ ¬ x.e.nu = nu) := by omega
  rcases hcase with ⟨h2, h3⟩ | h2 | ⟨h2, h3⟩
  · have e1 : isKey cl nu x.e = true := by unfold isKey; simp [h2, h3]
    have e2 : (x.e.cl == cl) = true := by simpa using h2
    have e3 : (x.e.nu == nu) = true := by simpa using h3
    clear h2 h3
    replace e1 := Lib.hid e1
    go_enter Tryz.func53, Tryz.ntmps53
    go_wp2_with fail
    go_region_held3 (fun w' => w'.cell? ⟨kb, 0, none⟩ = some (.int .i64 cl) ∧ w'.cell? ⟨kb, 1, none⟩ = some (.int .i64 nu) ∧ w'.cell? ⟨w.heap.size, 0, none⟩ = some (.int .i64 x.e.cl) ∧ w'.cell? ⟨w.heap.size, 1, none⟩ = some (.int .i64 x.e.nu) ∧ w'.cell? ⟨w.heap.size, 2, none⟩ = some (.int .i64 x.e.kd) ∧ w'.cell? ⟨w.heap.size, 3, none⟩ = some (.int .i64 x.e.id) ∧ w'.cell? ⟨w.heap.size, 4, none⟩ = some (.int .i64 x.e.srv.k) ∧ w'.cell? ⟨w.heap.size, 5, none⟩ = some (.int .i64 x.e.srv.q) ∧ w'.cell? ⟨w.heap.size, 6, none⟩ = some (.int .i64 x.e.srv.t) ∧ w'.cell? ⟨w.heap.size, 7, none⟩ = some (.int .i64 x.e.po) ∧ w'.cell? ⟨w.heap.size, 8, none⟩ = some (.slice x.a x.e.tasks.length x.c) ∧ w'.cell? ⟨w.heap.size, 9, none⟩ = some (.int .i64 x.e.at_)) (simp (maxDischargeDepth := 8) [go_sem, *])
      (first
        | (go_at_call 54; refine (hk.out _).mono ?_; rintro e wf ⟨rfl, gf⟩; obtain ⟨cf, ff, sf⟩ := gf.cells; simp only [World.size_drew, World.size_alloc] at cf sf; have kf := fun o => cf kb o (by omega); have kf2 := fun o => cf w.heap.size o (by omega))
        | fail)
    go_wp2_with fail
    go_ret
    refine ⟨retb e1.out.symm, ?_⟩
    exact (((Gr.refl w).alloc _).drew).trans gf
  · have e1 : isKey cl nu x.e = false := by unfold isKey; simp [h2]
    have e2 : (x.e.cl == cl) = false := by simpa using h2
    clear h2
    replace e1 := Lib.hid e1
    go_enter Tryz.func53, Tryz.ntmps53
    go_wp2_with fail
    go_region_held3 (fun w' => w'.cell? ⟨kb, 0, none⟩ = some (.int .i64 cl) ∧ w'.cell? ⟨kb, 1, none⟩ = some (.int .i64 nu) ∧ w'.cell? ⟨w.heap.size, 0, none⟩ = some (.int .i64 x.e.cl) ∧ w'.cell? ⟨w.heap.size, 1, none⟩ = some (.int .i64 x.e.nu) ∧ w'.cell? ⟨w.heap.size, 2, none⟩ = some (.int .i64 x.e.kd) ∧ w'.cell? ⟨w.heap.size, 3, none⟩ = some (.int .i64 x.e.id) ∧ w'.cell? ⟨w.heap.size, 4, none⟩ = some (.int .i64 x.e.srv.k) ∧ w'.cell? ⟨w.heap.size, 5, none⟩ = some (.int .i64 x.e.srv.q) ∧ w'.cell? ⟨w.heap.size, 6, none⟩ = some (.int .i64 x.e.srv.t) ∧ w'.cell? ⟨w.heap.size, 7, none⟩ = some (.int .i64 x.e.po) ∧ w'.cell? ⟨w.heap.size, 8, none⟩ = some (.slice x.a x.e.tasks.length x.c) ∧ w'.cell? ⟨w.heap.size, 9, none⟩ = some (.int .i64 x.e.at_)) (simp (maxDischargeDepth := 8) [go_sem, *])
      (first
        | (go_at_call 54; refine (hk.out _).mono ?_; rintro e wf ⟨rfl, gf⟩; obtain ⟨cf, ff, sf⟩ := gf.cells; simp only [World.size_drew, World.size_alloc] at cf sf; have kf := fun o => cf kb o (by omega); have kf2 := fun o => cf w.heap.size o (by omega))
        | fail)
    go_wp2_with fail
    go_ret
    refine ⟨retb e1.out.symm, ?_⟩
    exact (((Gr.refl w).alloc _).drew).trans gf
  · have e1 : isKey cl nu x.e = false := by unfold isKey; simp [h3]
    have e2 : (x.e.cl == cl) = true := by simpa using h2
    have e3 : (x.e.nu == nu) = false := by simpa using h3
    clear h2 h3
    replace e1 := Lib.hid e1
    go_enter Tryz.func53, Tryz.ntmps53
    go_wp2_with fail
    go_region_held3 (fun w' => w'.cell? ⟨kb, 0, none⟩ = some (.int .i64 cl) ∧ w'.cell? ⟨kb, 1, none⟩ = some (.int .i64 nu) ∧ w'.cell? ⟨w.heap.size, 0, none⟩ = some (.int .i64 x.e.cl) ∧ w'.cell? ⟨w.heap.size, 1, none⟩ = some (.int .i64 x.e.nu) ∧ w'.cell? ⟨w.heap.size, 2, none⟩ = some (.int .i64 x.e.kd) ∧ w'.cell? ⟨w.heap.size, 3, none⟩ = some (.int .i64 x.e.id) ∧ w'.cell? ⟨w.heap.size, 4, none⟩ = some (.int .i64 x.e.srv.k) ∧ w'.cell? ⟨w.heap.size, 5, none⟩ = some (.int .i64 x.e.srv.q) ∧ w'.cell? ⟨w.heap.size, 6, none⟩ = some (.int .i64 x.e.srv.t) ∧ w'.cell? ⟨w.heap.size, 7, none⟩ = some (.int .i64 x.e.po) ∧ w'.cell? ⟨w.heap.size, 8, none⟩ = some (.slice x.a x.e.tasks.length x.c) ∧ w'.cell? ⟨w.heap.size, 9, none⟩ = some (.int .i64 x.e.at_)) (simp (maxDischargeDepth := 8) [go_sem, *])
      (first
        | (go_at_call 54; refine (hk.out _).mono ?_; rintro e wf ⟨rfl, gf⟩; obtain ⟨cf, ff, sf⟩ := gf.cells; simp only [World.size_drew, World.size_alloc] at cf sf; have kf := fun o => cf kb o (by omega); have kf2 := fun o => cf w.heap.size o (by omega))
        | fail)
    go_wp2_with fail
    go_ret
    refine ⟨retb e1.out.symm, ?_⟩
    exact (((Gr.refl w).alloc _).drew).trans gf

/-- The place of the first entry with a key, or -1. -/
def plIx (L : List EntM) (cl nu : Int) : Int := match L.findIdx? (fun x => isKey cl nu x.e) with
  | some i => (i : Int)
  | none => -1
theorem plIx_at {L : List EntM} {cl nu : Int} {k : Nat} {x : EntM} (hb : ∀ y ∈ L.take k, isKey cl nu y.e = false) (hx : L[k]? = some x) (h : isKey cl nu x.e = true) : plIx L cl nu = k := by
  have : L.findIdx? (fun x => isKey cl nu x.e) = some k := by
    rw [List.findIdx?_eq_some_iff_getElem]
    have hk := get_lt hx
    refine ⟨hk, ?_, fun j hj => ?_⟩
    · rw [List.getElem?_eq_getElem hk] at hx; rw [Option.some.inj hx]; exact h
    · have hm : L[j] ∈ L.take k := List.mem_of_getElem? (i := j) (by rw [List.getElem?_take]; simp [hj])
      rw [hb _ hm]; decide
  unfold plIx
  rw [this]
theorem plIx_none {L : List EntM} {cl nu : Int} (hb : ∀ y ∈ L, isKey cl nu y.e = false) : plIx L cl nu = -1 := by
  have : L.findIdx? (fun x => isKey cl nu x.e) = none := by
    rw [List.findIdx?_eq_none_iff]; intro x hx; rw [hb x hx]
  unfold plIx
  rw [this]

set_option maxRecDepth 100000 in
set_option maxHeartbeats 1600000 in
theorem indexFunc_any (a : Option Addr) (c : Nat) (L : List EntM) (cl nu : Int) (kb : Nat) (w : World) (h : LedM Any w a L) (hm : L.length ≤ maxLen) (h0 : w.cell? ⟨kb, 0, none⟩ = some (.int .i64 cl)) (h1 : w.cell? ⟨kb, 1, none⟩ = some (.int .i64 nu)) (hb : kb < w.heap.size) :
    Calls Tryz.prog 52 #[.slice a L.length c, .func (.func 53) #[] #[.pointer (some ⟨kb, 0, none⟩)]] w fun e w' => e = .returned (.int .i64 (plIx L cl nu)) ∧ Gr w w' := by
  unfold maxLen at hm
  go_enter Tryz.func52, Tryz.ntmps52
  go_wp2_with fail
  go_loopw [8] (fun iv wr => ∃ k : Nat, k ≤ L.length ∧ iv = .int .i64 k ∧ (∀ y ∈ L.take k, isKey cl nu y.e = false) ∧ Gr w wr) (fun iv _ => L.length - (intOf iv).toNat)
  case atStart => exact ⟨0, Nat.zero_le _, rfl, (fun _ h => by simp at h), Gr.refl _⟩
  case round =>
    obtain ⟨k, hk, rfl, hbf, hg⟩ := hrel
    replace hbf := Lib.hid hbf
    have q0 := hg.cells.1 kb 0 hb
    have q1 := hg.cells.1 kb 1 hb
    rw [h0] at q0
    rw [h1] at q1
    have hb' : kb < wr.heap.size := Nat.lt_of_lt_of_le hb hg.size
    by_cases hlt : k < L.length
    · obtain ⟨x, hx⟩ := get_some L k hlt
      obtain ⟨b, off, rfl, hbb, _, c0, c1, c2, c3, c4, c5, c6, c7, c8, c9⟩ := (h.gr hg).get hx
      have hp := place1_any x cl nu kb wr q0 q1 hb'
      cases hkey : isKey cl nu x.e
      · rw [hkey] at hp
        have hts := take_snoc hx
        have hbf2 : ∀ y ∈ L.take (k + 1), isKey cl nu y.e = false := by
          intro y hy
          rw [hts] at hy
          rcases List.mem_append.1 hy with hy | hy
          · exact hbf.out y hy
          · rw [List.mem_singleton.1 hy]; exact hkey
        replace hp := Lib.hid hp
        replace hbf2 := Lib.hid hbf2
        replace hkey := Lib.hid hkey
        clear hts
        replace hx := Lib.hid hx
        go_wp2_with fail
        refine (hp.out).mono ?_
        rintro e wp ⟨rfl, gp⟩
        obtain ⟨cp, fp, sp⟩ := gp.cells
        try simp only [size_drewN] at cp fp sp
        try simp only [World.size_alloc] at cp fp sp
        try simp only [World.size_drew] at cp fp sp
        try simp only [World.size_setCell] at cp fp sp
        go_wp2_with fail
        go_roundw
        case rel => exact ⟨k + 1, by omega, by go_num, hbf2.out, hg.trans gp⟩
        case measure => simp [intOf]; omega
      · have hix := plIx_at hbf.out hx hkey
        rw [hkey] at hp
        replace hp := Lib.hid hp
        replace hkey := Lib.hid hkey
        replace hix := Lib.hid hix
        replace hx := Lib.hid hx
        go_wp2_with fail
        refine (hp.out).mono ?_
        rintro e wp ⟨rfl, gp⟩
        obtain ⟨cp, fp, sp⟩ := gp.cells
        try simp only [size_drewN] at cp fp sp
        try simp only [World.size_alloc] at cp fp sp
        try simp only [World.size_drew] at cp fp sp
        try simp only [World.size_setCell] at cp fp sp
        go_wp2_with fail
        go_ret
        exact ⟨ret1 hix.out.symm, hg.trans gp⟩
    · have hall : L.take k = L := List.take_of_length_le (by omega)
      have hbf2 := hbf.out
      rw [hall] at hbf2
      have hix := plIx_none hbf2
      clear hbf2
      replace hix := Lib.hid hix
      go_wp2_with fail
      go_ret
      exact ⟨ret1 hix.out.symm, hg⟩
end Go.Proofs.YtglfdnfojpdkjaaGreatDoor
/- order.Place, order.Add. -/
namespace Go.Proofs.YtglfdnfojpdkjaaGreatDoor
open Go.RowKit

set_option maxHeartbeats 800000 in
theorem place_yes (a : Option Addr) (c : Nat) (L : List EntM) (cl nu : Int) (k : Nat) (w : World) (h : LedM Any w a L) (hm : L.length ≤ maxLen) (hk : plIx L cl nu = k) (hk' : k < L.length) :
    Calls Tryz.prog 23 #[.slice a L.length c, .int .i64 cl, .int .i64 nu] w fun e w' => e = .returned (.tuple #[.int .i64 ((k : Int) + 1), .nilIface]) ∧ Gr w w' := by
  have hix := fun (w : World) h h0 h1 hb => indexFunc_any a c L cl nu w.heap.size (w.alloc (.cells #[.int .i64 cl, .int .i64 nu] 110)) h hm h0 h1 hb
  rw [hk] at hix
  replace hix := Lib.hid hix
  unfold maxLen at hm
  replace hk := Lib.hid hk
  go_enter Tryz.func23, Tryz.ntmps23
  go_wp2_with fail
  refine (hix.out w (h.gr ((Gr.refl w).alloc _)) (by simp [go_sem]) (by simp [go_sem]) (by simp)).mono ?_
  rintro e w1 ⟨rfl, g1⟩
  go_wp2_with fail
  go_ret2
  exact ⟨rfl, ((Gr.refl w).alloc _).trans g1⟩
set_option maxHeartbeats 800000 in
theorem place_no {G : List Nat} {E : Nat → Addr} (a : Option Addr) (c : Nat) (L : List EntM) (cl nu : Int) (w : World) (hE : EAt G E w) (i6 : 0 ∈ G) (h : LedM Any w a L) (hm : L.length ≤ maxLen) (hk : plIx L cl nu = -1) :
    Calls Tryz.prog 23 #[.slice a L.length c, .int .i64 cl, .int .i64 nu] w fun e w' => e = .returned (.tuple #[.int .i64 0, (Value.iface 258 (.pointer (some (E 0))))]) ∧ Gr w w' := by
  have hix := fun (w : World) h h0 h1 hb => indexFunc_any a c L cl nu w.heap.size (w.alloc (.cells #[.int .i64 cl, .int .i64 nu] 110)) h hm h0 h1 hb
  rw [hk] at hix
  replace hix := Lib.hid hix
  replace hk := Lib.hid hk
  go_enter Tryz.func23, Tryz.ntmps23
  go_wp2_with fail
  refine (hix.out w (h.gr ((Gr.refl w).alloc _)) (by simp [go_sem]) (by simp [go_sem]) (by simp)).mono ?_
  rintro e w1 ⟨rfl, g1⟩
  have e6 := (hE.gr (((Gr.refl w).alloc _).trans g1)).c0 i6
  go_wp2_with fail
  go_quiet (fail)
  go_wp2_with fail
  go_ret2
  refine ⟨rfl, ?_⟩
  exact (((Gr.refl w).alloc _).trans g1).drewN _

/-- A list of one entry, copied. -/
def OneP (x : Ent) (w : World) (e : Ending) (w' : World) : Prop :=
  ∃ b2 o2 c2, ∃ y : EntM, e = .returned (.slice (some ⟨b2, o2, none⟩) 1 c2) ∧ y.e = x ∧ (∀ j u, y.cells[j]? = some u → w'.cell? ((⟨b2, o2, none⟩ : Addr).add j) = some u) ∧ y.ok (fun b => w.heap.size ≤ b) w' ∧ Gr w w'
def AddP (L : List Ent) (n : Nat) (w : World) (e : Ending) (w' : World) : Prop :=
  ∃ a c L', e = .returned (.tuple #[.slice a L'.length c, .int .i64 n, .nilIface]) ∧ L'.map (·.e) = L ∧ LedM (fun b => w.heap.size ≤ b) w' a L' ∧ (a = none → c = 0) ∧ L'.length ≤ c ∧ c ≤ maxLen ∧ Gr w w'

/-- The place of the first entry with a key, or -1. -/
def plE (l : List Ent) (cl nu : Int) : Int := match l.findIdx? (isKey cl nu) with
  | some i => (i : Int)
  | none => -1
theorem plIx_map (L : List EntM) (cl nu : Int) : plIx L cl nu = plE (L.map (·.e)) cl nu := by
  unfold plIx plE
  rw [List.findIdx?_map]
  rfl
theorem plE_cases (l : List Ent) (cl nu : Int) : plE l cl nu = -1 ∨ ∃ k : Nat, plE l cl nu = k ∧ k < l.length := by
  unfold plE
  cases h : l.findIdx? (isKey cl nu) with
  | none => exact .inl rfl
  | some i =>
    rw [List.findIdx?_eq_some_iff_getElem] at h
    exact .inr ⟨i, rfl, h.1⟩
end Go.Proofs.YtglfdnfojpdkjaaGreatDoor
