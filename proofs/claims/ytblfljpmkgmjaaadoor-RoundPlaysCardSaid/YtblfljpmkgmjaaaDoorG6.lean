/- order.Place, order.Add. -/
import Derived.Test.YtblfljpmkgmjaaaDoorG5
import Derived.Deep.AppendLies
namespace Go.Proofs.YtblfljpmkgmjaaaDoor
open Go.RowKit

set_option maxHeartbeats 800000 in
theorem place_yes (a : Option Addr) (c : Nat) (L : List EntM) (cl nu : Int) (k : Nat) (w : World) (h : LedM Any w a L) (hm : L.length ≤ maxLen) (hk : plIx L cl nu = k) (hk' : k < L.length) :
    Calls Tryd.prog 57 #[.slice a L.length c, .int .i64 cl, .int .i64 nu] w fun e w' => e = .returned (.tuple #[.int .i64 ((k : Int) + 1), .nilIface]) ∧ Gr w w' := by
  have hix := fun (w : World) h h0 h1 hb => indexFunc_any a c L cl nu w.heap.size (w.alloc (.cells #[.int .i64 cl, .int .i64 nu] 156)) h hm h0 h1 hb
  rw [hk] at hix
  replace hix := Lib.hid hix
  unfold maxLen at hm
  replace hk := Lib.hid hk
  go_enter Tryd.func57, Tryd.ntmps57
  go_wp2_with fail
  refine (hix.out w (h.gr ((Gr.refl w).alloc _)) (by simp [go_sem]) (by simp [go_sem]) (by simp)).mono ?_
  rintro e w1 ⟨rfl, g1⟩
  go_wp2_with fail
  go_ret2
  exact ⟨rfl, ((Gr.refl w).alloc _).trans g1⟩
set_option maxHeartbeats 800000 in
theorem place_no {G : List Nat} {E : Nat → Addr} (a : Option Addr) (c : Nat) (L : List EntM) (cl nu : Int) (w : World) (hE : EAt G E w) (i6 : 6 ∈ G) (h : LedM Any w a L) (hm : L.length ≤ maxLen) (hk : plIx L cl nu = -1) :
    Calls Tryd.prog 57 #[.slice a L.length c, .int .i64 cl, .int .i64 nu] w fun e w' => e = .returned (.tuple #[.int .i64 0, (Value.iface 194 (.pointer (some (E 6))))]) ∧ Gr w w' := by
  have hix := fun (w : World) h h0 h1 hb => indexFunc_any a c L cl nu w.heap.size (w.alloc (.cells #[.int .i64 cl, .int .i64 nu] 156)) h hm h0 h1 hb
  rw [hk] at hix
  replace hix := Lib.hid hix
  replace hk := Lib.hid hk
  go_enter Tryd.func57, Tryd.ntmps57
  go_wp2_with fail
  refine (hix.out w (h.gr ((Gr.refl w).alloc _)) (by simp [go_sem]) (by simp [go_sem]) (by simp)).mono ?_
  rintro e w1 ⟨rfl, g1⟩
  have e6 := (hE.gr (((Gr.refl w).alloc _).trans g1)).c0 i6
  go_wp2_with fail
  go_quiet (fail)
  go_wp2_with fail
  go_ret2
  refine ⟨rfl, ?_⟩
  exact (((Gr.refl w).alloc _).trans g1).drewN _

/-- A list of one entry, copied. -/
def OneP (x : Ent) (w : World) (e : Ending) (w' : World) : Prop :=
  ∃ b2 o2 c2, ∃ y : EntM, e = .returned (.slice (some ⟨b2, o2, none⟩) 1 c2) ∧ y.e = x ∧ (∀ j u, y.cells[j]? = some u → w'.cell? ((⟨b2, o2, none⟩ : Addr).add j) = some u) ∧ y.ok (fun b => w.heap.size ≤ b) w' ∧ Gr w w'
set_option maxHeartbeats 400000 in
theorem copied09_one (x : EntM) (w w' : World) (g0 : Gr (w.alloc x.obj) w') (hx : x.ok Any w') : Calls Tryd.prog 117 #[.slice (some ⟨w.heap.size, 0, none⟩) 1 1] w' (OneP x.e w') := by
  have hr := recs_alloc EntM.cells_len w [x] 36 (List.toArray x.cells) (by simp)
  have hr' : RecsIn Any 10 EntM.cells w' (some ⟨w.heap.size, 0, none⟩) [x] := RecsIn.grx (T := []) ⟨hr, fun _ _ _ => trivial⟩ (g0.x []) (fun _ h => by cases h)
  have hl : LedM Any w' (some ⟨w.heap.size, 0, none⟩) [x] := ⟨hr', fun y hy => by rw [List.mem_singleton.1 hy]; exact hx⟩
  have h := copied09_any (some ⟨w.heap.size, 0, none⟩) 1 [x] w' hl (by simp)
  rw [show [x].length = 1 from rfl] at h
  refine h.mono ?_
  rintro e w1 ⟨a, c, L', rfl, m, l, n, q1, q2, g, _⟩
  obtain ⟨y, rfl⟩ : ∃ y, L' = [y] := by
    have hl := congrArg List.length m
    cases L' with
    | nil => simp at hl
    | cons y r => cases r with
      | nil => exact ⟨y, rfl⟩
      | cons z r => simp at hl
  have hy : y.e = x.e := by simpa using m
  obtain ⟨b, o, ha, hb, hc⟩ := l.1.1 0 y rfl
  subst ha
  refine ⟨b, o, c, y, rfl, hy, fun j u hu => ?_, l.2 y (List.mem_singleton.2 rfl), g⟩
  have := hc j u hu
  unfold Addr.add
  split
  · rename_i h0; rw [h0] at this; simpa using this
  · simpa using this

def AddP (L : List Ent) (n : Nat) (w : World) (e : Ending) (w' : World) : Prop :=
  ∃ a c L', e = .returned (.tuple #[.slice a L'.length c, .int .i64 n, .nilIface]) ∧ L'.map (·.e) = L ∧ LedM (fun b => w.heap.size ≤ b) w' a L' ∧ (a = none → c = 0) ∧ L'.length ≤ c ∧ c ≤ maxLen ∧ Gr w w'

set_option maxRecDepth 100000 in
set_option maxHeartbeats 3200000 in
theorem add_new {G : List Nat} {E : Nat → Addr} (a : Option Addr) (c : Nat) (L : List EntM) (x : EntM) (w : World) (hE : EAt G E w) (i6 : 6 ∈ G) (h : LedM Any w a L) (hx : x.ok Any w) (hk : plIx L x.e.cl x.e.nu = -1) (h64 : L.length < 64) :
    Calls Tryd.prog 91 #[.slice a L.length c, .agg #[.int .i64 x.e.cl, .int .i64 x.e.nu, .int .i64 x.e.kd, .int .i64 x.e.id, .int .i64 x.e.srv.k, .int .i64 x.e.srv.q, .int .i64 x.e.srv.t, .int .i64 x.e.po, .slice x.a x.e.tasks.length x.c, .int .i64 x.e.at_]] w (AddP (L.map (·.e) ++ [x.e]) (L.length + 1) w) := by
  obtain ⟨i36, hi, hz0, hz1, hz2⟩ := info_parts Tryd.infoEnt
  have g0 := (Gr.refl w).alloc x.obj
  have hp := fun w' (g : Gr w w') => place_no a c L x.e.cl x.e.nu w' (hE.gr g) i6 (h.gr g) (by unfold maxLen; omega) hk
  replace hp := Lib.hid hp
  have hc1 := fun w' (g : Gr w w') => copied09_any a c L w' (h.gr g) (by omega)
  replace hc1 := Lib.hid hc1
  have hxx := fun w' (g : Gr w w') => hx.gr g
  replace hxx := Lib.hid hxx
  replace hk := Lib.hid hk
  go_enter Tryd.func91, Tryd.ntmps91
  go_wp2_with fail
  refine (hp.out _ g0).mono ?_
  rintro e wp ⟨rfl, gp⟩
  obtain ⟨cp, fp, sp⟩ := gp.cells
  try simp only [size_drewN] at cp fp sp
  try simp only [World.size_alloc] at cp fp sp
  try simp only [World.size_drew] at cp fp sp
  try simp only [World.size_setCell] at cp fp sp
  have zp0 : w.heap.size < wp.heap.size := by omega
  have yp0 : w.heap.size ≤ wp.heap.size := by omega
  have kp0 := fun o => cp (w.heap.size) o (by omega)
  have jp0 := fun o => fp (w.heap.size) o (by omega)
  have gp0 : Gr w wp := g0.trans gp
  have sp0 := gp0.size
  go_wp2_with fail
  go_region_held3 (fun w' => w'.cell? ⟨w.heap.size, 0, none⟩ = some (.int .i64 x.e.cl) ∧ w'.cell? ⟨w.heap.size, 1, none⟩ = some (.int .i64 x.e.nu) ∧ w'.cell? ⟨w.heap.size, 2, none⟩ = some (.int .i64 x.e.kd) ∧ w'.cell? ⟨w.heap.size, 3, none⟩ = some (.int .i64 x.e.id) ∧ w'.cell? ⟨w.heap.size, 4, none⟩ = some (.int .i64 x.e.srv.k) ∧ w'.cell? ⟨w.heap.size, 5, none⟩ = some (.int .i64 x.e.srv.q) ∧ w'.cell? ⟨w.heap.size, 6, none⟩ = some (.int .i64 x.e.srv.t) ∧ w'.cell? ⟨w.heap.size, 7, none⟩ = some (.int .i64 x.e.po) ∧ w'.cell? ⟨w.heap.size, 8, none⟩ = some (.slice x.a x.e.tasks.length x.c) ∧ w'.cell? ⟨w.heap.size, 9, none⟩ = some (.int .i64 x.e.at_)) (simp (maxDischargeDepth := 8) [go_sem, *])
    (first
      | (go_at_call 117; (with_reducible refine (hc1.out _ ?hgg).mono ?_); (case hgg => first | exact gp0.drew | exact (gp0.alloc _).drew | exact gp0.drew.alloc _); rintro e w1 ⟨a1, c1, L1, rfl, m1, l1, n1, q1, q2, g1, o1, d1⟩; obtain ⟨k1, j1, s1⟩ := g1.cells; simp only [World.size_drew, World.size_alloc] at k1 j1 s1 o1; have kk1 := fun o => k1 w.heap.size o (by omega); have zw1 : w.heap.size < w1.heap.size := (by omega); have hL1 : L1.length = L.length := (by simpa using congrArg List.length m1); rw [hL1] at o1 d1; have bl1 := owns_lt o1; replace bl1 := Lib.hid bl1; replace d1 := Lib.hid d1; replace m1 := Lib.hid m1; clear k1 j1)
      | (go_at_call 117; (with_reducible refine (copied09_one x w1 _ (Gr.refl (w1.alloc x.obj)) ?hgh).mono ?_); (case hgh => exact hxx.out _ (((gp0.drew).trans g1).alloc _)); rintro e w2 ⟨b2, o2, c2, y, rfl, y1, y2, y3, g2⟩; obtain ⟨k2, j2, s2⟩ := g2.cells; simp only [World.size_alloc] at k2 j2 s2; have kk2 := fun o => k2 w.heap.size o (by omega); have g12 : Gr w1 w2 := ((Gr.refl w1).alloc x.obj).trans g2; have o1' := owns_gr o1 g12; have y4 : y.ok (fun b => w1.heap.size ≤ b) w2 := y3.mono (fun b _ hb => by simp at hb; omega); have g02 : Gr w w2 := ((gp0.drew).trans g1).trans g12; clear k2 j2 y3)
      | (go_at_call 117; (with_reducible refine (copied09_one x wp w1 (((Gr.refl (wp.alloc x.obj)).drew).trans g1) ?hgh).mono ?_); (case hgh => exact hxx.out _ (((gp0.alloc _).drew).trans g1)); rintro e w2 ⟨b2, o2, c2, y, rfl, y1, y2, y4, g2⟩; obtain ⟨k2, j2, s2⟩ := g2.cells; have kk2 := fun o => k2 w.heap.size o (by omega); have g12 : Gr w1 w2 := g2; have o1' := owns_gr o1 g12; have g02 : Gr w w2 := (((gp0.alloc _).drew).trans g1).trans g12; clear k2 j2)
      | (refine step_append_lies _ (by rfl) _ _ _ (by rfl) _ 36 i36 _ 10 96 Tryd.underlying41 hi hz0 hz1 hz2 rfl (by omega) (.slice a1 L.length c1) L.length _ (by rfl) o1' ⟨b2, o2, none⟩ 1 c2 y.cells (by rfl) (by rfl) y2 y.cells_one (by omega) (by unfold maxLen; omega) (by omega) (by omega) _ rfl ?_; intro g3 c3 w3 hown hgrow hat hlt; have k3 := fun o => hgrow.cell_far ⟨w.heap.size, o, none⟩ (by show w.heap.size < _; omega) (by intro he; have := (bl1.out _ he.symm).2; simp at this; omega))
      | fail)
  all_goals
    have h3 : Gr w w3 := g02.grown hgrow (fun g hg => by have := (bl1.out _ hg).2; omega)
    have hown' := hown
    rw [show L.length + 1 = (L1 ++ [y]).length by simp [hL1], show L1.flatMap EntM.cells ++ y.cells = (L1 ++ [y]).flatMap EntM.cells by simp] at hown'
    obtain ⟨a', c', hv, hr, hn, hB⟩ := recs_of_owns EntM.cells_len hown'
    obtain ⟨q3, q4⟩ := owns_cap hown' rfl
    cases hv
    have hled : LedM (fun b => w.heap.size ≤ b) w3 (some ⟨g3, 0, none⟩) (L1 ++ [y]) := by
      refine ⟨⟨hr, fun z hz _ => ?_⟩, fun z hz => ?_⟩
      · have := hB z hz; omega
      · rcases List.mem_append.1 hz with hz | hz
        · exact (((l1.2 z hz).mono (fun b _ hb => by simp at hb; omega)).gr g12).grown hgrow (d1.out z hz)
        · rw [List.mem_singleton.1 hz]
          exact (y4.mono (fun b _ hb => by omega)).grown hgrow (fun ad ha ht e => by have := (bl1.out _ e).1; have := y4.1.2 ad ha ht; omega)
    have hmap : (L1 ++ [y]).map (·.e) = L.map (·.e) ++ [x.e] := by rw [List.map_append, m1.out]; simp [y1]
    replace hmap := Lib.hid hmap
    have hq3 : L.length + 1 ≤ c3 := by simpa [hL1] using q3
    clear hgrow hown hown' hat hr hn hB m1 l1 d1 y1 y2 y4
    go_wp2_with fail
    go_ret3
    refine ⟨some ⟨g3, 0, none⟩, c3, L1 ++ [y], ?_, hmap.out, hled, (fun h => by cases h), ?_, q4, h3⟩
    · simp [hL1]
    · simpa [hL1] using hq3

set_option maxRecDepth 100000 in
set_option maxHeartbeats 1600000 in
theorem add_found (a : Option Addr) (c : Nat) (L : List EntM) (x : EntM) (w : World) (k : Nat) (h : LedM Any w a L) (hk : plIx L x.e.cl x.e.nu = k) (hkL : k < L.length) (hm : L.length * 96 ≤ 140737488351232) :
    Calls Tryd.prog 91 #[.slice a L.length c, .agg #[.int .i64 x.e.cl, .int .i64 x.e.nu, .int .i64 x.e.kd, .int .i64 x.e.id, .int .i64 x.e.srv.k, .int .i64 x.e.srv.q, .int .i64 x.e.srv.t, .int .i64 x.e.po, .slice x.a x.e.tasks.length x.c, .int .i64 x.e.at_]] w (AddP (L.map (·.e)) (k + 1) w) := by
  have g0 := (Gr.refl w).alloc x.obj
  have hp := fun w' (g : Gr w w') => place_yes a c L x.e.cl x.e.nu k w' (h.gr g) (by unfold maxLen; omega) hk hkL
  replace hp := Lib.hid hp
  have hc1 := fun w' (g : Gr w w') => copied09_any a c L w' (h.gr g) hm
  replace hc1 := Lib.hid hc1
  replace hk := Lib.hid hk
  go_enter Tryd.func91, Tryd.ntmps91
  go_wp2_with fail
  refine (hp.out _ g0).mono ?_
  rintro e wp ⟨rfl, gp⟩
  obtain ⟨cp, fp, sp⟩ := gp.cells
  try simp only [size_drewN] at cp fp sp
  try simp only [World.size_alloc] at cp fp sp
  try simp only [World.size_drew] at cp fp sp
  try simp only [World.size_setCell] at cp fp sp
  have gp0 : Gr w wp := g0.trans gp
  have sp0 := gp0.size
  go_wp2_with fail
  refine (hc1.out _ gp0).mono ?_
  rintro e w1 ⟨a1, c1, L1, rfl, m1, l1, n1, q1, q2, g1, o1, d1⟩
  have hL1 : L1.length = L.length := by simpa using congrArg List.length m1
  replace m1 := Lib.hid m1
  clear d1 o1
  go_wp2_with fail
  go_ret3
  exact ⟨a1, c1, L1, by simp [hL1], m1.out, l1.mono (fun b _ hb => by omega), n1, by omega, q2, gp0.trans g1⟩

set_option maxRecDepth 100000 in
set_option maxHeartbeats 1600000 in
theorem add_full {G : List Nat} {E : Nat → Addr} (a : Option Addr) (c : Nat) (L : List EntM) (x : EntM) (w : World) (hE : EAt G E w) (i6 : 6 ∈ G) (i8 : 8 ∈ G) (h : LedM Any w a L) (hk : plIx L x.e.cl x.e.nu = -1) (h64 : 64 ≤ L.length) (hm : L.length ≤ maxLen) :
    Calls Tryd.prog 91 #[.slice a L.length c, .agg #[.int .i64 x.e.cl, .int .i64 x.e.nu, .int .i64 x.e.kd, .int .i64 x.e.id, .int .i64 x.e.srv.k, .int .i64 x.e.srv.q, .int .i64 x.e.srv.t, .int .i64 x.e.po, .slice x.a x.e.tasks.length x.c, .int .i64 x.e.at_]] w fun e w' => e = .returned (.tuple #[.slice none 0 0, .int .i64 0, (Value.iface 194 (.pointer (some (E 8))))]) ∧ Gr w w' := by
  have g0 := (Gr.refl w).alloc x.obj
  have hp := fun w' (g : Gr w w') => place_no a c L x.e.cl x.e.nu w' (hE.gr g) i6 (h.gr g) hm hk
  replace hp := Lib.hid hp
  have he := fun w' (g : Gr w w') => (hE.gr g).c0 i8
  replace hk := Lib.hid hk
  unfold maxLen at hm
  go_enter Tryd.func91, Tryd.ntmps91
  go_wp2_with fail
  refine (hp.out _ g0).mono ?_
  rintro e wp ⟨rfl, gp⟩
  obtain ⟨cp, fp, sp⟩ := gp.cells
  try simp only [size_drewN] at cp fp sp
  try simp only [World.size_alloc] at cp fp sp
  try simp only [World.size_drew] at cp fp sp
  try simp only [World.size_setCell] at cp fp sp
  have gp0 : Gr w wp := g0.trans gp
  have e8 := he _ gp0
  clear he
  go_wp2_with fail
  go_quiet (fail)
  go_wp2_with fail
  go_ret3
  exact ⟨rfl, gp0.drewN _⟩

/-- The place of the first entry with a key, or -1. -/
def plE (l : List Ent) (cl nu : Int) : Int := match l.findIdx? (isKey cl nu) with
  | some i => (i : Int)
  | none => -1
theorem plIx_map (L : List EntM) (cl nu : Int) : plIx L cl nu = plE (L.map (·.e)) cl nu := by
  unfold plIx plE
  rw [List.findIdx?_map]
  rfl
theorem plE_cases (l : List Ent) (cl nu : Int) : plE l cl nu = -1 ∨ ∃ k : Nat, plE l cl nu = k ∧ k < l.length := by
  unfold plE
  cases h : l.findIdx? (isKey cl nu) with
  | none => exact .inl rfl
  | some i =>
    rw [List.findIdx?_eq_some_iff_getElem] at h
    exact .inr ⟨i, rfl, h.1⟩
end Go.Proofs.YtblfljpmkgmjaaaDoor
