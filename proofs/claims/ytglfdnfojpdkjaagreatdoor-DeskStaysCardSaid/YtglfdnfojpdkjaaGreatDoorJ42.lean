/- A round in memory; hear, told, Stage. -/
import Derived.Test.YtglfdnfojpdkjaaGreatDoorJ41
import Derived.Deep.OwnRows
import Derived.Deep.Light
namespace Go.Proofs.YtglfdnfojpdkjaaGreatDoor
open Go.RowKit
variable {K0 : Nat → Prop}

/-- A round. -/
structure Rnd where
  an : List Bool
  x : EntM
  reads : Bool
  bal : Bal
  st : Int
  nw : Bal
  la : Option Addr
  lc : Nat
  led : List EntM
  begun : Int
abbrev Rnd.row (R : Rnd) (ab : Nat) : Array Value :=
  #[.slice (some ⟨ab, 0, none⟩) R.an.length R.an.length, .int .i64 R.x.e.cl, .int .i64 R.x.e.nu, .int .i64 R.x.e.kd, .int .i64 R.x.e.id, .int .i64 R.x.e.srv.k, .int .i64 R.x.e.srv.q, .int .i64 R.x.e.srv.t, .int .i64 R.x.e.po, .slice R.x.a R.x.e.tasks.length R.x.c, .int .i64 R.x.e.at_,
    .bool R.reads, .int .i64 R.bal.r, .int .i64 R.bal.n, .int .i64 R.st, .int .i64 R.nw.r, .int .i64 R.nw.n, .slice R.la R.led.length R.lc, .int .i64 R.begun]
def Rnd.hears (R : Rnd) (st fr : Int) (b : Bal) : Bool := decide (R.st = st ∧ b.r = R.bal.r ∧ b.n = R.bal.n ∧ 0 ≤ fr ∧ R.an[fr.toNat]? = some false)

end Go.Proofs.YtglfdnfojpdkjaaGreatDoor
/- A round's values; told, Stage, most, tell. -/
namespace Go.Proofs.YtglfdnfojpdkjaaGreatDoor
open Go.RowKit
variable {K0 : Nat → Prop}

/-- What a round knows, wherever it lies. -/
structure RndV where
  an : List Bool
  x : Ent
  reads : Bool
  bal : Bal
  st : Int
  nw : Bal
  led : List Ent
  begun : Int
abbrev Rnd.v (R : Rnd) : RndV := ⟨R.an, R.x.e, R.reads, R.bal, R.st, R.nw, R.led.map (·.e), R.begun⟩
def RndV.told (r : RndV) : Bool := decide (r.st = 2 ∨ r.st = 3)
def RndV.most (r : RndV) : Bool := decide (r.an.length / 2 + 1 ≤ r.an.count true)
def RndV.clr (r : RndV) : RndV := {r with an := List.replicate r.an.length false}
def RndV.tell (r : RndV) : RndV :=
  if r.reads then {r.clr with st := 2}
  else if plE r.led r.x.cl r.x.nu = -1 then (if r.led.length < 64 then {r.clr with st := 2, led := r.led ++ [r.x]} else {r.clr with st := 4})
  else {r.clr with st := 2}

theorem setCells_blk {b : Nat} {t : TypeId} : ∀ (vs : List Value) (o : Nat) (w : World) (cs : Array Value), Blk w b cs t → ∃ cs', Blk (w.setCells b o vs) b cs' t ∧ cs'.size = cs.size ∧ (∀ j, j < o → cs'[j]? = cs[j]?) ∧ ∀ j, o + j < cs.size → j < vs.length → cs'[o + j]? = vs[j]?
  | [], o, w, cs, h => ⟨cs, h, rfl, fun _ _ => rfl, fun j _ hj => by simp at hj⟩
  | v :: r, o, w, cs, h => by
    obtain ⟨cs', h1, h2, h3, h4⟩ := setCells_blk r (o + 1) _ _ (h.set o v)
    refine ⟨cs', h1, by simpa using h2, fun j hj => ?_, fun j hj hl => ?_⟩
    · rw [h3 j (by omega)]
      simp [show ¬ o = j by omega]
    · cases j with
      | zero => rw [h3 _ (by omega)]; simp at hj; simp [hj]
      | succ j =>
        have := h4 j (by simp; omega) (by simpa using hl)
        rw [show o + (j + 1) = o + 1 + j by omega, this]
        simp
theorem setCells_grx {S : List Nat} {b : Nat} : ∀ (vs : List Value) (o : Nat) (w w' : World), GrX S w w' → b ∈ S → GrX S w (w'.setCells b o vs)
  | [], _, _, _, g, _ => g
  | v :: r, o, w, _, g, hb => setCells_grx r (o + 1) w _ (g.set (.inl hb) v) hb
theorem setCells_out {b c : Nat} (hn : c ≠ b) : ∀ (vs : List Value) (o : Nat) (w : World) (cs : Array Value) (t : TypeId), Blk w c cs t → Blk (w.setCells b o vs) c cs t
  | [], _, _, _, _, h => h
  | v :: r, o, _, cs, t, h => setCells_out hn r (o + 1) _ cs t (h.other hn v)
theorem count_snoc {l : List Bool} {k : Nat} {v : Bool} (h : l[k]? = some v) : (l.take (k + 1)).count true = (l.take k).count true + (if v then 1 else 0) := by
  rw [take_snoc h, List.count_append]
  cases v <;> rfl

end Go.Proofs.YtglfdnfojpdkjaaGreatDoor
/- A round: tell, Accepted, Promise, Ledger, Place. -/
namespace Go.Proofs.YtglfdnfojpdkjaaGreatDoor
open Go.RowKit
variable {K0 : Nat → Prop}

theorem LedM.any {K : Nat → Prop} {w : World} {a : Option Addr} {L : List EntM} (h : LedM K w a L) : LedM Any w a L := h.mono (fun _ _ _ => trivial)

end Go.Proofs.YtglfdnfojpdkjaaGreatDoor
/- A round: Accepted, Ledger, Place. -/
namespace Go.Proofs.YtglfdnfojpdkjaaGreatDoor
open Go.RowKit
variable {K0 : Nat → Prop}

def RndV.hears (r : RndV) (st fr : Int) (b : Bal) : Bool := decide (r.st = st ∧ b.r = r.bal.r ∧ b.n = r.bal.n ∧ 0 ≤ fr ∧ r.an[fr.toNat]? = some false)
def RndV.note (r : RndV) (fr : Int) : RndV := {r with an := r.an.set fr.toNat true}
def RndV.accepted (r : RndV) (fr : Int) (b : Bal) : Bool × RndV :=
  if r.hears 2 fr b then (true, if (r.note fr).most then {r.note fr with st := 3} else r.note fr) else (false, r)

def RndV.ledger (r : RndV) : List Ent := if r.told then r.led else []
/-- A ledger as new memory. -/
def NewLed (L : List Ent) (w : World) (e : Ending) (w' : World) : Prop :=
  ∃ a c L', e = .returned (.slice a L'.length c) ∧ L'.map (·.e) = L ∧ LedM (fun b => w.heap.size ≤ b) w' a L' ∧ (a = none → c = 0) ∧ L'.length ≤ c ∧ c ≤ maxLen ∧ Gr w w'

def RndV.place (r : RndV) : Int := if r.told then (if r.reads then (r.led.length : Int) else plE r.led r.x.cl r.x.nu + 1) else 0
end Go.Proofs.YtglfdnfojpdkjaaGreatDoor
/- A round: Promise. Printed by gen_g11.py. -/
namespace Go.Proofs.YtglfdnfojpdkjaaGreatDoor
open Go.RowKit
variable {K0 : Nat → Prop}

def RndV.hearNew (r : RndV) (fr : Int) (acc : Bal) (l : List Ent) : RndV := if aboveB acc r.nw then {r.note fr with nw := acc, led := l} else r.note fr
def RndV.promise (r : RndV) (fr : Int) (b acc : Bal) (l : List Ent) : Bool × RndV :=
  if r.hears 1 fr b then (true, if (r.hearNew fr acc l).most then (r.hearNew fr acc l).tell else r.hearNew fr acc l) else (false, r)

end Go.Proofs.YtglfdnfojpdkjaaGreatDoor
/- A round: Begin. -/
namespace Go.Proofs.YtglfdnfojpdkjaaGreatDoor
open Go.RowKit
variable {K0 : Nat → Prop}

def RndV.begin (r : RndV) (b : Bal) : RndV := {r.clr with bal := b, st := 1, nw := ⟨0, 0⟩, led := [], begun := r.begun + 1}

end Go.Proofs.YtglfdnfojpdkjaaGreatDoor
/- A round: New. -/
namespace Go.Proofs.YtglfdnfojpdkjaaGreatDoor
open Go.RowKit

theorem Tryz.infoBoo : (Tryz.prog.info? 4).map (fun i => (i.zero, i.size, i.bytes)) = some (some (.bool false), 1, 1) := by kernel_rfl
theorem made_false (n : Nat) : madeCells #[.bool false] n = ((List.replicate n false).map Value.bool).toArray := by
  apply Array.ext
  · simp [madeCells]
  · intro i h1 h2
    have h3 : i < n := by simpa [madeCells] using h1
    simp [madeCells, Nat.mod_one]

def RndV.new (n : Nat) (x : Ent) (reads : Bool) : RndV := ⟨List.replicate n false, x, reads, ⟨0, 0⟩, 0, ⟨0, 0⟩, [], 0⟩
abbrev Rnd.new (n : Nat) (x : EntM) (reads : Bool) : Rnd := ⟨List.replicate n false, x, reads, ⟨0, 0⟩, 0, ⟨0, 0⟩, none, 0, [], 0⟩
end Go.Proofs.YtglfdnfojpdkjaaGreatDoor
/- almonerlaw19: make1, alive. -/
namespace Go.Proofs.YtglfdnfojpdkjaaGreatDoor
open Go.RowKit
variable {K0 : Nat → Prop}

abbrev mk1 : EntM := ⟨⟨0, 1, 3, 0, ⟨0, 0, 0⟩, 0, [], 0⟩, none, 0⟩
theorem mk1_ok (K : Nat → Prop) (w : World) : mk1.ok K w := ⟨RecsIn.nil _ _ _ _ _, fun _ => rfl, Nat.le_refl _, Nat.zero_le _, by simp⟩
theorem check_mk1 (w : World) : Calls Tryz.prog 57 #[.agg #[.int .i64 0, .int .i64 1, .int .i64 3, .int .i64 0, .int .i64 0, .int .i64 0, .int .i64 0, .int .i64 0, .slice none 0 0, .int .i64 0]] w fun e w' => e = .returned .nilIface ∧ Gr w w' :=
  check_del mk1.e none 0 w ⟨rfl, rfl, rfl, rfl, by decide, by decide, by decide, by decide⟩ (by decide) (by decide) (by decide) (by decide)
section
variable {G : List Nat} {E : Nat → Addr} {W0 : World} {R : Rnd} {w : World} {rb ab : Nat}
end

def al0 : RndV := (RndV.new 3 mk1.e false).begin ⟨1, 0⟩
def al1 : RndV := (al0.promise 0 ⟨1, 0⟩ ⟨0, 0⟩ []).2
def al2 : RndV := (al1.promise 0 ⟨1, 0⟩ ⟨0, 0⟩ []).2
def al3 : RndV := (al2.promise 2 ⟨1, 0⟩ ⟨0, 0⟩ []).2
def al4 : RndV := (al3.accepted 1 ⟨1, 0⟩).2
def al5 : RndV := (al4.accepted 2 ⟨1, 0⟩).2
section
variable {G : List Nat} {E : Nat → Addr} {W0 : World} {R : Rnd} {w : World} {rb ab : Nat}
end

end Go.Proofs.YtglfdnfojpdkjaaGreatDoor
/- almonerref09: SameOrder, Same, SameLedger where they are the same; a round that is done does not begin. -/
namespace Go.Proofs.YtglfdnfojpdkjaaGreatDoor
open Go.RowKit
variable {K0 : Nat → Prop}

theorem tsk_cells {w : World} {a : Option Addr} {l : List Tsk} (h : RecsAt 4 Tsk.cells w a l) {i : Nat} {d : Tsk} (hd : l[i]? = some d) : ∃ b off, a = some ⟨b, off, none⟩ ∧ b < w.heap.size ∧ w.cell? ⟨b, off + i * 4, none⟩ = some (.int .i64 d.c) ∧ w.cell? ⟨b, off + i * 4 + 1, none⟩ = some (.int .i64 d.p) ∧ w.cell? ⟨b, off + i * 4 + 2, none⟩ = some (.int .i64 d.d) ∧ w.cell? ⟨b, off + i * 4 + 3, none⟩ = some (.int .i64 d.s) := by
  obtain ⟨b, off, ha, hb, hc⟩ := h i d hd
  exact ⟨b, off, ha, hb, hc 0 _ rfl, hc 1 _ rfl, hc 2 _ rfl, hc 3 _ rfl⟩

set_option maxRecDepth 100000 in
set_option maxHeartbeats 3200000 in
theorem sameOrder_eq (e : Ent) (a1 a2 : Option Addr) (c1 c2 : Nat) (w : World) (h1 : (⟨e, a1, c1⟩ : EntM).ok Any w) (h2 : (⟨e, a2, c2⟩ : EntM).ok Any w) :
    Calls Tryz.prog 56 #[.agg #[.int .i64 e.kd, .int .i64 e.id, .int .i64 e.srv.k, .int .i64 e.srv.q, .int .i64 e.srv.t, .int .i64 e.po, .slice a1 e.tasks.length c1, .int .i64 e.at_], .agg #[.int .i64 e.kd, .int .i64 e.id, .int .i64 e.srv.k, .int .i64 e.srv.q, .int .i64 e.srv.t, .int .i64 e.po, .slice a2 e.tasks.length c2, .int .i64 e.at_]] w fun x w' => x = .returned (.bool true) ∧ Gr w w' := by
  have hcap := ent_cap h1
  dsimp only at hcap
  go_enter Tryz.func56, Tryz.ntmps56
  go_wp2_with fail
  have gW := ((Gr.refl w).alloc (.cells #[.int .i64 e.kd, .int .i64 e.id, .int .i64 e.srv.k, .int .i64 e.srv.q, .int .i64 e.srv.t, .int .i64 e.po, .slice a1 e.tasks.length c1, .int .i64 e.at_] 27)).alloc (.cells #[.int .i64 e.kd, .int .i64 e.id, .int .i64 e.srv.k, .int .i64 e.srv.q, .int .i64 e.srv.t, .int .i64 e.po, .slice a2 e.tasks.length c2, .int .i64 e.at_] 27)
  go_loopw [51] (fun iv wr => ∃ k : Nat, k ≤ e.tasks.length ∧ iv = .int .i64 k ∧ Gr ((w.alloc (.cells #[.int .i64 e.kd, .int .i64 e.id, .int .i64 e.srv.k, .int .i64 e.srv.q, .int .i64 e.srv.t, .int .i64 e.po, .slice a1 e.tasks.length c1, .int .i64 e.at_] 27)).alloc (.cells #[.int .i64 e.kd, .int .i64 e.id, .int .i64 e.srv.k, .int .i64 e.srv.q, .int .i64 e.srv.t, .int .i64 e.po, .slice a2 e.tasks.length c2, .int .i64 e.at_] 27)) wr) (fun iv _ => e.tasks.length - (intOf iv).toNat)
  case atStart => exact ⟨0, Nat.zero_le _, rfl, Gr.refl _⟩
  case round =>
    obtain ⟨k, hk, rfl, hg⟩ := hrel
    obtain ⟨cg, fg, sg⟩ := hg.cells
    simp only [World.size_alloc] at cg fg sg
    have k1 := fun o => cg w.heap.size o (by omega)
    have k2 := fun o => cg (w.heap.size + 1) o (by omega)
    clear cg fg
    by_cases hlt : k < e.tasks.length
    · obtain ⟨d, hd⟩ := get_some e.tasks k hlt
      obtain ⟨b, off, hb0, hb, d0, d1, d2, d3⟩ := tsk_cells ((h1.gr gW).gr hg).1.1 hd
      obtain ⟨b', off', hb0', hb', d0', d1', d2', d3'⟩ := tsk_cells ((h2.gr gW).gr hg).1.1 hd
      dsimp only at hb0 hb0'
      subst hb0 hb0'
      replace hd := Lib.hid hd
      go_wp2_with fail
      go_quiet (fail)
      go_wp2_with fail
      go_roundw
      case rel => exact ⟨k + 1, by omega, by go_num, hg.drewN _⟩
      case measure => simp [intOf]; omega
    · go_wp2_with fail
      go_ret
      exact ⟨rfl, gW.trans hg⟩

set_option maxRecDepth 100000 in
set_option maxHeartbeats 3200000 in
theorem same_eq (e : Ent) (a1 a2 : Option Addr) (c1 c2 : Nat) (w : World) (h1 : (⟨e, a1, c1⟩ : EntM).ok Any w) (h2 : (⟨e, a2, c2⟩ : EntM).ok Any w) :
    Calls Tryz.prog 26 #[.agg (List.toArray (e.cells a1 c1)), .agg (List.toArray (e.cells a2 c2))] w fun x w' => x = .returned (.bool true) ∧ Gr w w' := by
  have gW := ((Gr.refl w).alloc (.cells #[.int .i64 e.cl, .int .i64 e.nu, .int .i64 e.kd, .int .i64 e.id, .int .i64 e.srv.k, .int .i64 e.srv.q, .int .i64 e.srv.t, .int .i64 e.po, .slice a1 e.tasks.length c1, .int .i64 e.at_] 60)).alloc (.cells #[.int .i64 e.cl, .int .i64 e.nu, .int .i64 e.kd, .int .i64 e.id, .int .i64 e.srv.k, .int .i64 e.srv.q, .int .i64 e.srv.t, .int .i64 e.po, .slice a2 e.tasks.length c2, .int .i64 e.at_] 60)
  have hso := sameOrder_eq e a1 a2 c1 c2 _ (h1.gr gW) (h2.gr gW)
  replace hso := Lib.hid hso
  clear h1 h2
  go_enter Tryz.func26, Tryz.ntmps26
  go_wp2_with fail
  refine hso.out.mono ?_
  rintro x w1 ⟨rfl, g1⟩
  go_wp2_with fail
  go_ret
  exact ⟨rfl, gW.trans g1⟩

set_option maxRecDepth 100000 in
set_option maxHeartbeats 3200000 in
theorem sameLedger_eq (a1 a2 : Option Addr) (c1 c2 : Nat) (L1 L2 : List EntM) (w : World) (h1 : LedM Any w a1 L1) (h2 : LedM Any w a2 L2) (he : L1.map (·.e) = L2.map (·.e)) (hm : L1.length ≤ maxLen) :
    Calls Tryz.prog 14 #[.slice a1 L1.length c1, .slice a2 L2.length c2] w fun x w' => x = .returned (.bool true) ∧ Gr w w' := by
  have hlen : L2.length = L1.length := by simpa using (congrArg List.length he).symm
  have hsm := fun e a1 a2 c1 c2 (w' : World) h1 h2 => same_eq e a1 a2 c1 c2 w' h1 h2
  replace hsm := Lib.hid hsm
  rw [hlen]
  replace hlen := Lib.hid hlen
  replace he := Lib.hid he
  unfold maxLen at hm
  go_enter Tryz.func14, Tryz.ntmps14
  go_wp2_with fail
  go_loopw [13] (fun iv wr => ∃ k : Nat, k ≤ L1.length ∧ iv = .int .i64 k ∧ Gr w wr) (fun iv _ => L1.length - (intOf iv).toNat)
  case atStart => exact ⟨0, Nat.zero_le _, rfl, Gr.refl _⟩
  case round =>
    obtain ⟨k, hk, rfl, hg⟩ := hrel
    by_cases hlt : k < L1.length
    · obtain ⟨x, hx⟩ := get_some L1 k hlt
      obtain ⟨y, hy⟩ := get_some L2 k (by rw [hlen.out]; exact hlt)
      have hxy : y.e = x.e := by
        have e1 : (L1.map (·.e))[k]? = some x.e := by simp [hx]
        have e2 : (L2.map (·.e))[k]? = some y.e := by simp [hy]
        rw [he.out, e2] at e1
        exact Option.some.inj e1
      obtain ⟨y, a4, c4⟩ := y
      dsimp only at hxy
      subst hxy
      obtain ⟨b, off, rfl, hb, _, d0, d1, d2, d3, d4, d5, d6, d7, d8, d9⟩ := (h1.gr hg).get hx
      obtain ⟨b', off', rfl, hb', _, e0, e1, e2, e3, e4, e5, e6, e7, e8, e9⟩ := (h2.gr hg).get hy
      have o1 := (h1.gr hg).2 x (get_mem hx)
      have o2 := (h2.gr hg).2 _ (get_mem hy)
      dsimp only at e0 e1 e2 e3 e4 e5 e6 e7 e8 e9
      have q0 := GrW.cell d0
      have q1 := GrW.cell d1
      have q2 := GrW.cell d2
      have q3 := GrW.cell d3
      have q4 := GrW.cell d4
      have q5 := GrW.cell d5
      have q6 := GrW.cell d6
      have q7 := GrW.cell d7
      have q8 := GrW.cell d8
      have q9 := GrW.cell d9
      have p0 := GrW.cell e0
      have p1 := GrW.cell e1
      have p2 := GrW.cell e2
      have p3 := GrW.cell e3
      have p4 := GrW.cell e4
      have p5 := GrW.cell e5
      have p6 := GrW.cell e6
      have p7 := GrW.cell e7
      have p8 := GrW.cell e8
      have p9 := GrW.cell e9
      replace hx := Lib.hid hx
      replace hy := Lib.hid hy
      go_wp2_with fail
      refine wp_region_grows (by kernel_rfl) (by kernel_rfl) ?_
      repeat (any_goals (first | go_big_quiet_step (first | (exact Calls.grows (hsm.out x.e x.a a4 x.c c4 _ (o1.gr (by exact GrW.gr _)) (o2.gr (by exact GrW.gr _))))) | quiet_step (first | (exact Calls.grows (hsm.out x.e x.a a4 x.c c4 _ (o1.gr (by exact GrW.gr _)) (o2.gr (by exact GrW.gr _)))))))
      refine wpQuiet_nil ?_
      intro wp hwq
      have gp := GrW.of hwq
      clear hwq
      obtain ⟨cp, fp, sp⟩ := gp.cells
      try simp only [size_drewN] at cp fp sp
      try simp only [World.size_alloc] at cp fp sp
      try simp only [World.size_drew] at cp fp sp
      try simp only [World.size_setCell] at cp fp sp
      clear q0 q1 q2 q3 q4 q5 q6 q7 q8 q9 p0 p1 p2 p3 p4 p5 p6 p7 p8 p9
      go_wp2_with fail
      go_roundw
      case rel => exact ⟨k + 1, by omega, by go_num, hg.trans gp⟩
      case measure => simp [intOf]; omega
    · go_wp2_with fail
      go_ret
      exact ⟨rfl, hg⟩

end Go.Proofs.YtglfdnfojpdkjaaGreatDoor
/- almonerref09.ok, SameOrder where they differ; the form of an entry. -/
namespace Go.Proofs.YtglfdnfojpdkjaaGreatDoor
open Go.RowKit

/-- A task's numbers, an order, an entry are in form. -/
def tskF (t : Tsk) : Bool := okN t.c && okN t.p && okN t.d && okN t.s
def ordFG (e : Ent) : Bool :=
  okN e.at_ && okN e.id && (
    if e.kd = 1 ∨ e.kd = 2 then decide (e.po = 0) && decide (e.tasks = []) && (okN e.srv.k && okN e.srv.q && okN e.srv.t)
    else if e.kd = 3 then decide (e.po = 0) && decide (e.tasks = []) && decide (e.srv.k = 0 ∧ e.srv.q = 0 ∧ e.srv.t = 0)
    else if e.kd = 4 then decide (e.srv.k = 0 ∧ e.srv.q = 0 ∧ e.srv.t = 0) && okN e.po && decide (e.tasks.length ≤ 8) && e.tasks.all tskF
    else false)
def entF (e : Ent) : Bool := decide (0 ≤ e.cl ∧ e.cl < 16 ∧ 1 ≤ e.nu ∧ e.nu ≤ 1099511627776) && ordFG e

set_option maxHeartbeats 800000 in
theorem taskBad_any (t : Tsk) (w : World) :
    Calls Tryz.prog 104 #[.agg #[.int .i64 t.c, .int .i64 t.p, .int .i64 t.d, .int .i64 t.s]] w fun e w' => e = .returned (.bool (!tskF t)) ∧ Gr w w' := by
  have hf := fun (b : Nat) (w : World) h => fit_any (some ⟨b, 0, none⟩) [t.c, t.p, t.d, t.s] 4 w h (by unfold maxLen; simp)
  have hall : [t.c, t.p, t.d, t.s].all okN = tskF t := by simp [tskF, Bool.and_assoc]
  rw [hall] at hf
  obtain ⟨v, hv⟩ : ∃ v, v = tskF t := ⟨_, rfl⟩
  rw [← hv] at hf ⊢
  replace hv := Lib.hid hv
  replace hf := Lib.hid hf
  clear hall
  go_enter Tryz.func104, Tryz.ntmps104
  go_wp2_with fail
  refine (hf.out (w.heap.size + 1) _ ?_).mono ?_
  · have := recs_alloc intCG_len (w.alloc (.cells #[.int .i64 t.c, .int .i64 t.p, .int .i64 t.d, .int .i64 t.s] 115)) [t.c, t.p, t.d, t.s] 3 #[.int .i64 t.c, .int .i64 t.p, .int .i64 t.d, .int .i64 t.s] rfl
    simpa using this
  rintro e w1 ⟨rfl, rfl⟩
  go_wp2_with fail
  go_ret
  exact ⟨rfl, ((Gr.refl _).alloc _).alloc _⟩

set_option maxRecDepth 100000 in
set_option maxHeartbeats 1600000 in
theorem idxTask_any (a : Option Addr) (c : Nat) (L : List Tsk) (w : World) (h : RecsIn Any 4 Tsk.cells w a L) (hm : L.length ≤ maxLen) :
    Calls Tryz.prog 124 #[.slice a L.length c, .func (.func 104) #[] #[]] w fun e w' => (∃ n, e = .returned (.int .i64 n) ∧ (L.all tskF = decide (n < 0))) ∧ Gr w w' := by
  unfold maxLen at hm
  go_enter Tryz.func124, Tryz.ntmps124
  go_wp2_with fail
  go_loopw [8] (fun iv wr => ∃ k : Nat, k ≤ L.length ∧ iv = .int .i64 k ∧ (L.take k).all tskF = true ∧ Gr w wr) (fun iv _ => L.length - (intOf iv).toNat)
  case atStart => exact ⟨0, Nat.zero_le _, rfl, rfl, Gr.refl _⟩
  case round =>
    obtain ⟨k, hk, rfl, hbf, hg⟩ := hrel
    replace hbf := Lib.hid hbf
    by_cases hlt : k < L.length
    · obtain ⟨x, hx⟩ := get_some L k hlt
      obtain ⟨b, off, rfl, hbb, c0, c1, c2, c3⟩ := tsk_cells (h.grx (T := []) (hg.x []) (fun _ h => by cases h)).1 hx
      have hp := taskBad_any x wr
      cases hkey : tskF x
      · rw [hkey] at hp
        have hno : L.all tskF = false := by
          cases hh : L.all tskF
          · rfl
          · have := List.all_eq_true.1 hh x (get_mem hx)
            rw [hkey] at this; cases this
        replace hno := Lib.hid hno
        replace hp := Lib.hid hp
        replace hkey := Lib.hid hkey
        replace hx := Lib.hid hx
        go_wp2_with fail
        refine (hp.out).mono ?_
        rintro e wp ⟨rfl, gp⟩
        obtain ⟨cp, fp, sp⟩ := gp.cells
        try simp only [size_drewN] at cp fp sp
        try simp only [World.size_alloc] at cp fp sp
        try simp only [World.size_drew] at cp fp sp
        try simp only [World.size_setCell] at cp fp sp
        go_wp2_with fail
        go_ret
        exact ⟨⟨k, rfl, by rw [hno.out, decide_eq_false (by omega)]⟩, hg.trans gp⟩
      · rw [hkey] at hp
        have hts := take_snoc hx
        have hbf2 : (L.take (k + 1)).all tskF = true := by rw [hts, List.all_append, hbf.out]; simp [hkey]
        replace hp := Lib.hid hp
        replace hbf2 := Lib.hid hbf2
        replace hkey := Lib.hid hkey
        clear hts
        replace hx := Lib.hid hx
        go_wp2_with fail
        refine (hp.out).mono ?_
        rintro e wp ⟨rfl, gp⟩
        obtain ⟨cp, fp, sp⟩ := gp.cells
        try simp only [size_drewN] at cp fp sp
        try simp only [World.size_alloc] at cp fp sp
        try simp only [World.size_drew] at cp fp sp
        try simp only [World.size_setCell] at cp fp sp
        go_wp2_with fail
        go_roundw
        case rel => exact ⟨k + 1, by omega, by go_num, hbf2.out, hg.trans gp⟩
        case measure => simp [intOf]; omega
    · have hall : L.take k = L := List.take_of_length_le (by omega)
      have hbf2 := hbf.out
      rw [hall] at hbf2
      replace hbf2 := Lib.hid hbf2
      go_wp2_with fail
      go_ret
      exact ⟨⟨-1, rfl, by rw [hbf2.out]; rfl⟩, hg⟩
set_option maxHeartbeats 800000 in
theorem badTask_any (a : Option Addr) (c : Nat) (L : List Tsk) (w : World) (h : RecsIn Any 4 Tsk.cells w a L) (hm : L.length ≤ maxLen) :
    Calls Tryz.prog 103 #[.slice a L.length c, .func (.func 104) #[] #[]] w fun e w' => e = .returned (.bool (!L.all tskF)) ∧ Gr w w' := by
  have hp := idxTask_any a c L w h hm
  replace hp := Lib.hid hp
  obtain ⟨v, hv⟩ : ∃ v, v = L.all tskF := ⟨_, rfl⟩
  rw [← hv]
  replace hv := Lib.hid hv
  go_enter Tryz.func103, Tryz.ntmps103
  go_wp2_with fail
  refine hp.out.mono ?_
  rintro e w1 ⟨⟨n, rfl, hn⟩, g1⟩
  replace hn := Lib.hid hn
  go_wp2_with fail
  go_ret
  refine ⟨?_, g1⟩
  rw [hv.out, hn.out]
  by_cases h0 : n < 0 <;> simp [h0] <;> omega
end Go.Proofs.YtglfdnfojpdkjaaGreatDoor
/- order.checkOrder, order.Check of any entry. -/
namespace Go.Proofs.YtglfdnfojpdkjaaGreatDoor
open Go.RowKit


/-- Two servers' == . -/
theorem srv_eql (a b : Srv) (w : World) : (binOp .eql 24 (.agg #[.int .i64 a.k, .int .i64 a.q, .int .i64 a.t]) (.agg #[.int .i64 b.k, .int .i64 b.q, .int .i64 b.t])).run Tryz.prog w = .ok (.bool (decide (a.k = b.k ∧ a.q = b.q ∧ a.t = b.t))) w := by
  by_cases h1 : a.k = b.k
  · by_cases h2 : a.q = b.q
    · by_cases h3 : a.t = b.t
      · simp [go_sem, h1, h2, h3]
      · simp [go_sem, h1, h2, h3]
    · simp [go_sem, h1, h2]
  · simp [go_sem, h1]

set_option maxRecDepth 100000 in
set_option maxHeartbeats 3200000 in
theorem checkOrder_any (e : Ent) (a : Option Addr) (c : Nat) (w : World) (h : (⟨e, a, c⟩ : EntM).ok Any w) :
    Calls Tryz.prog 77 #[.agg #[.int .i64 e.kd, .int .i64 e.id, .int .i64 e.srv.k, .int .i64 e.srv.q, .int .i64 e.srv.t, .int .i64 e.po, .slice a e.tasks.length c, .int .i64 e.at_]] w fun x w' => x = .returned (.bool (ordFG e)) ∧ Gr w w' := by
  have hcap := ent_cap h
  dsimp only at hcap
  have hf := fun (b : Nat) (l : List Int) (w : World) h hm => fit_any (some ⟨b, 0, none⟩) l l.length w h hm
  replace hf := Lib.hid hf
  obtain ⟨v, hv⟩ : ∃ v, v = ordFG e := ⟨_, rfl⟩
  rw [← hv]
  cases hb : okN e.at_ && okN e.id with
  | false =>
    have hv0 : v = false := by rw [hv]; unfold ordFG; rw [hb]; rfl
    subst hv0
    have hall : [e.at_, e.id].all okN = false := by simpa using hb
    have hfit := fun b w h => hf.out b [e.at_, e.id] w h (by unfold maxLen; simp)
    rw [hall] at hfit
    replace hfit := Lib.hid hfit
    replace hb := Lib.hid hb
    replace hv := Lib.hid hv
    clear hall h
    go_enter Tryz.func77, Tryz.ntmps77
    go_wp2_with fail
    refine (hfit.out (w.heap.size + 1) _ ?_).mono ?_
    · have := recs_alloc intCG_len (w.alloc (.cells #[.int .i64 e.kd, .int .i64 e.id, .int .i64 e.srv.k, .int .i64 e.srv.q, .int .i64 e.srv.t, .int .i64 e.po, .slice a e.tasks.length c, .int .i64 e.at_] 27)) [e.at_, e.id] 3 #[.int .i64 e.at_, .int .i64 e.id] rfl
      simpa using this
    rintro x w1 ⟨rfl, rfl⟩
    go_wp2_with fail
    go_ret
    exact ⟨rfl, ((Gr.refl _).alloc _).alloc _⟩
  | true =>
    have hall : [e.at_, e.id].all okN = true := by simpa using hb
    have hfit := fun b w h => hf.out b [e.at_, e.id] w h (by unfold maxLen; simp)
    rw [hall] at hfit
    have hs := fun w => srv_eql e.srv ⟨0, 0, 0⟩ w
    obtain ⟨z, hz⟩ : ∃ z, z = decide (e.srv.k = 0 ∧ e.srv.q = 0 ∧ e.srv.t = 0) := ⟨_, rfl⟩
    dsimp only at hs
    rw [← hz] at hs
    obtain ⟨k, hk⟩ : ∃ k, k = e.kd := ⟨_, rfl⟩
    rw [← hk]
    have hfin : v = (if (k == 1 || k == 2) then decide (e.po = 0) && decide (e.tasks = []) && (okN e.srv.k && okN e.srv.q && okN e.srv.t) else if k == 3 then decide (e.po = 0) && decide (e.tasks = []) && z else if k == 4 then z && okN e.po && decide (e.tasks.length ≤ 8) && e.tasks.all tskF else false) := by
      rw [hv]
      unfold ordFG
      rw [hb, ← hz, ← hk, Bool.true_and]
      simp only [Bool.or_eq_true, beq_iff_eq]
    replace hfit := Lib.hid hfit
    replace hb := Lib.hid hb
    replace hv := Lib.hid hv
    replace hz := Lib.hid hz
    replace hfin := Lib.hid hfin
    replace hk := Lib.hid hk
    clear hall
    replace h := Lib.hid h
    go_enter Tryz.func77, Tryz.ntmps77
    go_wp2_with fail
    refine (hfit.out (w.heap.size + 1) _ ?_).mono ?_
    · have := recs_alloc intCG_len (w.alloc (.cells #[.int .i64 k, .int .i64 e.id, .int .i64 e.srv.k, .int .i64 e.srv.q, .int .i64 e.srv.t, .int .i64 e.po, .slice a e.tasks.length c, .int .i64 e.at_] 27)) [e.at_, e.id] 3 #[.int .i64 e.at_, .int .i64 e.id] rfl
      simpa using this
    rintro x w1 ⟨rfl, rfl⟩
    have hr3 := fun (W : World) => recs_alloc intCG_len W [e.srv.k, e.srv.q, e.srv.t] 3 #[.int .i64 e.srv.k, .int .i64 e.srv.q, .int .i64 e.srv.t] rfl
    have hr1 := fun (W : World) (p : Int) => recs_alloc intCG_len W [p] 3 #[.int .i64 p] rfl
    replace hr3 := Lib.hid hr3
    replace hr1 := Lib.hid hr1
    obtain ⟨f3, hf3⟩ : ∃ f3, f3 = [e.srv.k, e.srv.q, e.srv.t].all okN := ⟨_, rfl⟩
    have hfit3 : ∀ b w, RecsAt 1 intCG w (some ⟨b, 0, none⟩) [e.srv.k, e.srv.q, e.srv.t] → Calls Tryz.prog 102 #[.slice (some ⟨b, 0, none⟩) 3 3] w fun e w' => e = .returned (.bool f3) ∧ w = w' := fun b w h => by
      have := hf.out b [e.srv.k, e.srv.q, e.srv.t] w h (by unfold maxLen; simp)
      rw [← hf3] at this
      exact this
    have hfit1 : ∀ b p w, RecsAt 1 intCG w (some ⟨b, 0, none⟩) [p] → Calls Tryz.prog 102 #[.slice (some ⟨b, 0, none⟩) 1 1] w fun e w' => e = .returned (.bool (okN p)) ∧ w = w' := fun b p w h => by
      have := hf.out b [p] w h (by unfold maxLen; simp)
      rw [show [p].all okN = okN p by simp] at this
      exact this
    replace hfit3 := Lib.hid hfit3
    replace hfit1 := Lib.hid hfit1
    replace hf3 := Lib.hid hf3
    have hct := fun (w : World) h => badTask_any a c e.tasks w h (by unfold maxLen; omega)
    replace hct := Lib.hid hct
    cases z
    all_goals go_wp2_with fail
    all_goals first
      | (go_ret
         refine ⟨retb (Eq.symm ?_), ((Gr.refl _).alloc _).alloc _⟩
         clear hfit3 hfit1 hct hr3 hr1 hfit hf hb hv hs hz hk hcap hf3
         go_light
         rw [hfin.out]
         simp [*]
         done)
      | (with_reducible refine (hfit3.out (w.heap.size + 1 + 1) _ ?_).mono ?_
         · have := hr3.out ((w.alloc (.cells #[.int .i64 k, .int .i64 e.id, .int .i64 e.srv.k, .int .i64 e.srv.q, .int .i64 e.srv.t, .int .i64 0, .slice a 0 c, .int .i64 e.at_] 27)).alloc (.cells #[.int .i64 e.at_, .int .i64 e.id] 3))
           simpa using this
         rintro x w2 ⟨rfl, rfl⟩
         go_wp2_with fail
         go_ret
         refine ⟨retb (Eq.symm ?_), (((Gr.refl _).alloc _).alloc _).alloc _⟩
         clear hfit3 hfit1 hct hr3 hr1 hfit hf hb hv hs hz hk hcap
         go_light
         rw [hfin.out, hf3.out]
         simp [Bool.and_assoc, *]
         done)
      | skip
    · with_reducible refine (hfit1.out (w.heap.size + 1 + 1) 0 _ ?_).mono ?_
      · have := hr1.out ((w.alloc (.cells #[.int .i64 k, .int .i64 e.id, .int .i64 e.srv.k, .int .i64 e.srv.q, .int .i64 e.srv.t, .int .i64 0, .slice a e.tasks.length c, .int .i64 e.at_] 27)).alloc (.cells #[.int .i64 e.at_, .int .i64 e.id] 3)) 0
        simpa using this
      rintro x w2 ⟨rfl, rfl⟩
      have hct2 := hct.out (((w.alloc (.cells #[.int .i64 k, .int .i64 e.id, .int .i64 e.srv.k, .int .i64 e.srv.q, .int .i64 e.srv.t, .int .i64 0, .slice a e.tasks.length c, .int .i64 e.at_] 27)).alloc (.cells #[.int .i64 e.at_, .int .i64 e.id] 3)).alloc (.cells #[.int .i64 0] 3)) ((h.out.gr ((((Gr.refl w).alloc _).alloc _).alloc _)).1)
      have gW := (((Gr.refl w).alloc (.cells #[.int .i64 k, .int .i64 e.id, .int .i64 e.srv.k, .int .i64 e.srv.q, .int .i64 e.srv.t, .int .i64 0, .slice a e.tasks.length c, .int .i64 e.at_] 27)).alloc (.cells #[.int .i64 e.at_, .int .i64 e.id] 3)).alloc (.cells #[.int .i64 0] 3)
      replace hct2 := Lib.hid hct2
      have hx : okN 0 = true := by decide
      rw [hx]
      all_goals (replace hx := Lib.hid hx)
      all_goals go_wp2_with fail
      all_goals first
        | (go_ret
           refine ⟨retb (Eq.symm ?_), gW⟩
           clear hfit3 hfit1 hct hct2 hr3 hr1 hfit hf hb hv hs hz hk hcap hf3
           go_light
           rw [hfin.out]
           first
             | (simp [hx.out, *]
                done)
             | (have hl : decide (e.tasks.length ≤ 8) = true := decide_eq_true (by omega)
                rw [hl]
                simp [hx.out, *]
                done)
             | (have hl : decide (e.tasks.length ≤ 8) = false := decide_eq_false (by omega)
                rw [hl]
                simp [hx.out, *]
                done))
        | (with_reducible refine hct2.out.mono ?_
           rintro x w3 ⟨rfl, g3⟩
           go_wp2_with fail
           go_ret
           refine ⟨retb (Eq.symm ?_), gW.trans g3⟩
           clear hfit3 hfit1 hct hct2 hr3 hr1 hfit hf hb hv hs hz hk hcap hf3 gW g3
           go_light
           rw [hfin.out]
           first
             | (simp [hx.out, *]
                done)
             | (have hl : decide (e.tasks.length ≤ 8) = true := decide_eq_true (by omega)
                rw [hl]
                simp [hx.out, *]
                done)
             | (have hl : decide (e.tasks.length ≤ 8) = false := decide_eq_false (by omega)
                rw [hl]
                simp [hx.out, *]
                done))
        | fail
    · with_reducible refine (hfit1.out (w.heap.size + 1 + 1) e.po _ ?_).mono ?_
      · have := hr1.out ((w.alloc (.cells #[.int .i64 k, .int .i64 e.id, .int .i64 e.srv.k, .int .i64 e.srv.q, .int .i64 e.srv.t, .int .i64 e.po, .slice a e.tasks.length c, .int .i64 e.at_] 27)).alloc (.cells #[.int .i64 e.at_, .int .i64 e.id] 3)) e.po
        simpa using this
      rintro x w2 ⟨rfl, rfl⟩
      have hct2 := hct.out (((w.alloc (.cells #[.int .i64 k, .int .i64 e.id, .int .i64 e.srv.k, .int .i64 e.srv.q, .int .i64 e.srv.t, .int .i64 e.po, .slice a e.tasks.length c, .int .i64 e.at_] 27)).alloc (.cells #[.int .i64 e.at_, .int .i64 e.id] 3)).alloc (.cells #[.int .i64 e.po] 3)) ((h.out.gr ((((Gr.refl w).alloc _).alloc _).alloc _)).1)
      have gW := (((Gr.refl w).alloc (.cells #[.int .i64 k, .int .i64 e.id, .int .i64 e.srv.k, .int .i64 e.srv.q, .int .i64 e.srv.t, .int .i64 e.po, .slice a e.tasks.length c, .int .i64 e.at_] 27)).alloc (.cells #[.int .i64 e.at_, .int .i64 e.id] 3)).alloc (.cells #[.int .i64 e.po] 3)
      replace hct2 := Lib.hid hct2
      cases hx : okN e.po
      all_goals (replace hx := Lib.hid hx)
      all_goals go_wp2_with fail
      all_goals first
        | (go_ret
           refine ⟨retb (Eq.symm ?_), gW⟩
           clear hfit3 hfit1 hct hct2 hr3 hr1 hfit hf hb hv hs hz hk hcap hf3
           go_light
           rw [hfin.out]
           first
             | (simp [hx.out, *]
                done)
             | (have hl : decide (e.tasks.length ≤ 8) = true := decide_eq_true (by omega)
                rw [hl]
                simp [hx.out, *]
                done)
             | (have hl : decide (e.tasks.length ≤ 8) = false := decide_eq_false (by omega)
                rw [hl]
                simp [hx.out, *]
                done))
        | (with_reducible refine hct2.out.mono ?_
           rintro x w3 ⟨rfl, g3⟩
           go_wp2_with fail
           go_ret
           refine ⟨retb (Eq.symm ?_), gW.trans g3⟩
           clear hfit3 hfit1 hct hct2 hr3 hr1 hfit hf hb hv hs hz hk hcap hf3 gW g3
           go_light
           rw [hfin.out]
           first
             | (simp [hx.out, *]
                done)
             | (have hl : decide (e.tasks.length ≤ 8) = true := decide_eq_true (by omega)
                rw [hl]
                simp [hx.out, *]
                done)
             | (have hl : decide (e.tasks.length ≤ 8) = false := decide_eq_false (by omega)
                rw [hl]
                simp [hx.out, *]
                done))
        | fail

/-- order.Check: nil of an entry in form, ErrState of none. -/
abbrev entV (E : Nat → Addr) (b : Bool) : Value := if b then .nilIface else (Value.iface 258 (.pointer (some (E 1))))
set_option maxRecDepth 100000 in
set_option maxHeartbeats 1600000 in
theorem check_any {G : List Nat} {E : Nat → Addr} (x : EntM) (w : World) (h : x.ok Any w) (hE : EAt G E w) (i0 : 1 ∈ G) :
    Calls Tryz.prog 57 #[.agg #[.int .i64 x.e.cl, .int .i64 x.e.nu, .int .i64 x.e.kd, .int .i64 x.e.id, .int .i64 x.e.srv.k, .int .i64 x.e.srv.q, .int .i64 x.e.srv.t, .int .i64 x.e.po, .slice x.a x.e.tasks.length x.c, .int .i64 x.e.at_]] w fun e w' => e = .returned (entV E (entF x.e)) ∧ Gr w w' := by
  have gw := (Gr.refl w).alloc x.obj
  have ho := checkOrder_any x.e x.a x.c _ (h.gr gw)
  have he := (hE.gr gw).c0 i0
  replace gw := Lib.hid gw
  unfold entF
  by_cases hn : 0 ≤ x.e.cl ∧ x.e.cl < 16 ∧ 1 ≤ x.e.nu ∧ x.e.nu ≤ 1099511627776
  · rw [decide_eq_true hn, Bool.true_and]
    obtain ⟨n1, n2, n3, n4⟩ := hn
    cases hf : ordFG x.e with
    | true =>
      rw [hf] at ho
      replace ho := Lib.hid ho
      replace hf := Lib.hid hf
      clear h
      go_enter Tryz.func57, Tryz.ntmps57
      go_wp2_with fail
      refine (ho.out).mono ?_
      rintro e wa ⟨rfl, ga⟩
      obtain ⟨ca, fa, sa⟩ := ga.cells
      try simp only [size_drewN] at ca fa sa
      try simp only [World.size_alloc] at ca fa sa
      try simp only [World.size_drew] at ca fa sa
      try simp only [World.size_setCell] at ca fa sa
      have za0 : w.heap.size < wa.heap.size := by omega
      have ya0 : w.heap.size ≤ wa.heap.size := by omega
      have ka0 := fun o => ca (w.heap.size) o (by omega)
      have ja0 := fun o => fa (w.heap.size) o (by omega)
      go_wp2_with fail
      go_ret
      exact ⟨rfl, gw.out.trans ga⟩
    | false =>
      rw [hf] at ho
      replace ho := Lib.hid ho
      replace hf := Lib.hid hf
      clear h
      go_enter Tryz.func57, Tryz.ntmps57
      go_wp2_with fail
      refine (ho.out).mono ?_
      rintro e wa ⟨rfl, ga⟩
      obtain ⟨ca, fa, sa⟩ := ga.cells
      try simp only [size_drewN] at ca fa sa
      try simp only [World.size_alloc] at ca fa sa
      try simp only [World.size_drew] at ca fa sa
      try simp only [World.size_setCell] at ca fa sa
      have za0 : w.heap.size < wa.heap.size := by omega
      have ya0 : w.heap.size ≤ wa.heap.size := by omega
      have ka0 := fun o => ca (w.heap.size) o (by omega)
      have ja0 := fun o => fa (w.heap.size) o (by omega)
      have hea := (hE.gr (gw.out.trans ga)).c0 i0
      go_wp2_with fail
      go_ret
      exact ⟨rfl, gw.out.trans ga⟩
  · rw [decide_eq_false hn, Bool.false_and]
    clear h ho
    by_cases n1 : x.e.cl < 0
    · clear hn
      go_enter Tryz.func57, Tryz.ntmps57
      go_wp2_with fail
      go_ret
      exact ⟨rfl, gw.out⟩
    · by_cases n2 : 16 ≤ x.e.cl
      · clear hn
        go_enter Tryz.func57, Tryz.ntmps57
        go_wp2_with fail
        go_ret
        exact ⟨rfl, gw.out⟩
      · by_cases n3 : x.e.nu < 1
        · clear hn
          go_enter Tryz.func57, Tryz.ntmps57
          go_wp2_with fail
          go_ret
          exact ⟨rfl, gw.out⟩
        · have n4 : 1099511627776 < x.e.nu := by omega
          clear hn
          go_enter Tryz.func57, Tryz.ntmps57
          go_wp2_with fail
          go_ret
          exact ⟨rfl, gw.out⟩
end Go.Proofs.YtglfdnfojpdkjaaGreatDoor
/- almonerref09.SameOrder where only servers, policies and the tasks' number may differ; InForm. -/
namespace Go.Proofs.YtglfdnfojpdkjaaGreatDoor
open Go.RowKit

theorem srv_neq (a b : Srv) (w : World) : (binOp .neq 24 (.agg #[.int .i64 a.k, .int .i64 a.q, .int .i64 a.t]) (.agg #[.int .i64 b.k, .int .i64 b.q, .int .i64 b.t])).run Tryz.prog w = .ok (.bool (!decide (a.k = b.k ∧ a.q = b.q ∧ a.t = b.t))) w := by
  by_cases h1 : a.k = b.k
  · by_cases h2 : a.q = b.q
    · by_cases h3 : a.t = b.t
      · simp [go_sem, h1, h2, h3]
      · simp [go_sem, h1, h2, h3]
    · simp [go_sem, h1, h2]
  · simp [go_sem, h1]

def sameO (a b : Srv) (p q : Int) (m n : Nat) : Bool := decide (a.k = b.k ∧ a.q = b.q ∧ a.t = b.t) && decide (p = q) && decide (m = n)
set_option maxRecDepth 100000 in
set_option maxHeartbeats 3200000 in
theorem sameOrder_any (e : Ent) (s2 : Srv) (p2 : Int) (l2 : List Tsk) (a1 a2 : Option Addr) (c1 c2 : Nat) (w : World) (h1 : (⟨e, a1, c1⟩ : EntM).ok Any w) (h2 : (⟨{e with srv := s2, po := p2, tasks := l2}, a2, c2⟩ : EntM).ok Any w) (hl : l2 = [] ∨ l2 = e.tasks) :
    Calls Tryz.prog 56 #[.agg #[.int .i64 e.kd, .int .i64 e.id, .int .i64 e.srv.k, .int .i64 e.srv.q, .int .i64 e.srv.t, .int .i64 e.po, .slice a1 e.tasks.length c1, .int .i64 e.at_], .agg #[.int .i64 e.kd, .int .i64 e.id, .int .i64 s2.k, .int .i64 s2.q, .int .i64 s2.t, .int .i64 p2, .slice a2 l2.length c2, .int .i64 e.at_]] w fun x w' => x = .returned (.bool (sameO e.srv s2 e.po p2 e.tasks.length l2.length)) ∧ Gr w w' := by
  unfold sameO
  have hs := fun w => srv_neq e.srv s2 w
  have gw := ((Gr.refl w).alloc (.cells #[.int .i64 e.kd, .int .i64 e.id, .int .i64 e.srv.k, .int .i64 e.srv.q, .int .i64 e.srv.t, .int .i64 e.po, .slice a1 e.tasks.length c1, .int .i64 e.at_] 27)).alloc (.cells #[.int .i64 e.kd, .int .i64 e.id, .int .i64 s2.k, .int .i64 s2.q, .int .i64 s2.t, .int .i64 p2, .slice a2 l2.length c2, .int .i64 e.at_] 27)
  cases hz : decide (e.srv.k = s2.k ∧ e.srv.q = s2.q ∧ e.srv.t = s2.t) with
  | false =>
    rw [hz] at hs
    replace hz := Lib.hid hz
    replace gw := Lib.hid gw
    clear h1 h2 hl
    go_enter Tryz.func56, Tryz.ntmps56
    go_wp2_with fail
    go_ret
    exact ⟨rfl, gw.out⟩
  | true =>
    rw [hz] at hs
    obtain ⟨z1, z2, z3⟩ := of_decide_eq_true hz
    by_cases hp : e.po = p2
    · by_cases hn : e.tasks.length = l2.length
      · have hl2 : l2 = e.tasks := by
          rcases hl with rfl | rfl
          · exact (List.length_eq_zero_iff.1 hn).symm
          · rfl
        have hs2 : s2 = e.srv := by obtain ⟨k, q, t⟩ := s2; obtain ⟨_, _, _, _, ⟨_, _, _⟩, _, _, _⟩ := e; simp at z1 z2 z3; simp [z1, z2, z3]
        subst hl2 hs2 hp
        rw [decide_eq_true (rfl : e.po = e.po), decide_eq_true (rfl : e.tasks.length = e.tasks.length)]
        exact sameOrder_eq e a1 a2 c1 c2 w h1 h2
      · rw [decide_eq_false hn, decide_eq_true hp]
        have e1 : ((e.tasks.length : Int) == (l2.length : Int)) = false := by simpa using fun h => hn (by omega)
        have e2 : ((e.tasks.length : Int) != (l2.length : Int)) = true := by simpa using fun h => hn (by omega)
        have e3 : (e.po != p2) = false := by simpa using hp
        replace hz := Lib.hid hz
        replace gw := Lib.hid gw
        clear h1 h2 hl hn hp z1 z2 z3
        go_enter Tryz.func56, Tryz.ntmps56
        go_wp2_with fail
        go_ret
        exact ⟨rfl, gw.out⟩
    · rw [decide_eq_false hp]
      have e3 : (e.po != p2) = true := by simpa using hp
      replace hz := Lib.hid hz
      replace gw := Lib.hid gw
      clear h1 h2 hl hp z1 z2 z3
      go_enter Tryz.func56, Tryz.ntmps56
      go_wp2_with fail
      go_ret
      exact ⟨rfl, gw.out⟩
end Go.Proofs.YtglfdnfojpdkjaaGreatDoor
