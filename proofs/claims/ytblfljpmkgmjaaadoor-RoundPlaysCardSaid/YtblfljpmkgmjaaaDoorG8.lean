/- A round's values; told, Stage, most, tell. -/
import Derived.Test.YtblfljpmkgmjaaaDoorG7
namespace Go.Proofs.YtblfljpmkgmjaaaDoor
open Go.RowKit
variable {K0 : Nat → Prop}

/-- What a round knows, wherever it lies. -/
structure RndV where
  an : List Bool
  x : Ent
  reads : Bool
  bal : Bal
  st : Int
  nw : Bal
  led : List Ent
  begun : Int
abbrev Rnd.v (R : Rnd) : RndV := ⟨R.an, R.x.e, R.reads, R.bal, R.st, R.nw, R.led.map (·.e), R.begun⟩
def RndV.told (r : RndV) : Bool := decide (r.st = 2 ∨ r.st = 3)
def RndV.most (r : RndV) : Bool := decide (r.an.length / 2 + 1 ≤ r.an.count true)
def RndV.clr (r : RndV) : RndV := {r with an := List.replicate r.an.length false}
def RndV.tell (r : RndV) : RndV :=
  if r.reads then {r.clr with st := 2}
  else if plE r.led r.x.cl r.x.nu = -1 then (if r.led.length < 64 then {r.clr with st := 2, led := r.led ++ [r.x]} else {r.clr with st := 4})
  else {r.clr with st := 2}

theorem setCells_blk {b : Nat} {t : TypeId} : ∀ (vs : List Value) (o : Nat) (w : World) (cs : Array Value), Blk w b cs t → ∃ cs', Blk (w.setCells b o vs) b cs' t ∧ cs'.size = cs.size ∧ (∀ j, j < o → cs'[j]? = cs[j]?) ∧ ∀ j, o + j < cs.size → j < vs.length → cs'[o + j]? = vs[j]?
  | [], o, w, cs, h => ⟨cs, h, rfl, fun _ _ => rfl, fun j _ hj => by simp at hj⟩
  | v :: r, o, w, cs, h => by
    obtain ⟨cs', h1, h2, h3, h4⟩ := setCells_blk r (o + 1) _ _ (h.set o v)
    refine ⟨cs', h1, by simpa using h2, fun j hj => ?_, fun j hj hl => ?_⟩
    · rw [h3 j (by omega)]
      simp [show ¬ o = j by omega]
    · cases j with
      | zero => rw [h3 _ (by omega)]; simp at hj; simp [hj]
      | succ j =>
        have := h4 j (by simp; omega) (by simpa using hl)
        rw [show o + (j + 1) = o + 1 + j by omega, this]
        simp
theorem setCells_grx {S : List Nat} {b : Nat} : ∀ (vs : List Value) (o : Nat) (w w' : World), GrX S w w' → b ∈ S → GrX S w (w'.setCells b o vs)
  | [], _, _, _, g, _ => g
  | v :: r, o, w, _, g, hb => setCells_grx r (o + 1) w _ (g.set (.inl hb) v) hb
theorem setCells_out {b c : Nat} (hn : c ≠ b) : ∀ (vs : List Value) (o : Nat) (w : World) (cs : Array Value) (t : TypeId), Blk w c cs t → Blk (w.setCells b o vs) c cs t
  | [], _, _, _, _, h => h
  | v :: r, o, _, cs, t, h => setCells_out hn r (o + 1) _ cs t (h.other hn v)
/-- clear(r.answered). -/
theorem RndAt.clr {w : World} {rb ab : Nat} {R : Rnd} (h : RndAt K0 w rb ab R) :
    ∃ w', (∀ ty, (Builtin.clear_ #[52] ty #[.slice (some ⟨ab, 0, none⟩) R.an.length R.an.length]).run Tryd.prog w = .ok (.tuple #[]) w') ∧ RndAt K0 w' rb ab {R with an := List.replicate R.an.length false} ∧ GrX [rb, ab] w w' := by
  have hz : ∀ w, (zeroValue 4).run Tryd.prog w = .ok (.bool false) w := fun w => by kernel_rfl
  refine ⟨w.setCells ab 0 (List.replicate R.an.length (.bool false)), fun ty => ?_, ?_, ?_⟩
  · refine Lib.run_clear_slice w 52 4 ty (.bool false) Tryd.underlying52 hz rfl rfl ab 0 _ _ h.n7.1 (fun j hj => ?_) (fun j _ => h.b.free _)
    have : R.an[j]? = some R.an[j] := List.getElem?_eq_getElem hj
    rw [Nat.zero_add, h.an this]
    rfl
  · have g : GrX [rb, ab] w (w.setCells ab 0 (List.replicate R.an.length (.bool false))) := setCells_grx _ 0 w w (GrX.refl _ w) (by simp)
    have hT : ∀ y, y ∈ [rb, ab] → ¬ (y ≠ rb ∧ y ≠ ab ∧ K0 y) := by rintro y hy ⟨y1, y2, _⟩; simp at hy; omega
    obtain ⟨cs', h1, h2, _, h4⟩ := setCells_blk (List.replicate R.an.length (.bool false)) 0 w _ h.b
    have hcs : cs' = ((List.replicate R.an.length false).map Value.bool).toArray := by
      have hs : cs'.size = R.an.length := by simpa using h2
      apply Array.ext
      · simpa using hs
      · intro i hi1 hi2
        have h5 := h4 i (by simp; omega) (by simp; omega)
        rw [Nat.zero_add, Array.getElem?_eq_getElem hi1] at h5
        have hi : i < R.an.length := by omega
        simp [hi] at h5
        simp [h5]
    refine ⟨?_, hcs ▸ h1, h.ne, by simpa using h.n7, h.x.grx g hT, h.l.grx g hT, h.lc, h.cap⟩
    have := setCells_out h.ne (List.replicate R.an.length (.bool false)) 0 w _ _ h.o
    simpa [Rnd.row] using this
  · exact setCells_grx _ 0 w w (GrX.refl _ w) (by simp)

set_option maxHeartbeats 800000 in
theorem stage_any (R : Rnd) (w : World) (rb ab : Nat) (h : RndAt K0 w rb ab R) :
    Calls Tryd.prog 16 #[.pointer (some ⟨rb, 0, none⟩)] w fun e w' => e = .returned (.int .i64 R.st) ∧ w = w' := by
  have c14 : w.cell? ⟨rb, 14, none⟩ = some (.int .i64 R.st) := h.o.cell rfl
  go_enter Tryd.func16, Tryd.ntmps16
  go_wp2
  go_ret
  exact ⟨rfl, rfl⟩

set_option maxHeartbeats 800000 in
theorem told_any (R : Rnd) (w : World) (rb ab : Nat) (h : RndAt K0 w rb ab R) :
    Calls Tryd.prog 56 #[.pointer (some ⟨rb, 0, none⟩)] w fun e w' => e = .returned (.bool R.v.told) ∧ w = w' := by
  have c14 : w.cell? ⟨rb, 14, none⟩ = some (.int .i64 R.st) := h.o.cell rfl
  clear h
  unfold RndV.told
  dsimp only
  by_cases h2 : R.st = 2
  · rw [decide_eq_true (.inl h2)]
    have e1 : (R.st == 2) = true := by simpa using h2
    clear h2
    go_enter Tryd.func56, Tryd.ntmps56
    go_wp2
    go_ret
    exact ⟨rfl, rfl⟩
  · have e1 : (R.st == 2) = false := by simpa using h2
    by_cases h3 : R.st = 3
    · rw [decide_eq_true (.inr h3)]
      have e2 : (R.st == 3) = true := by simpa using h3
      clear h2 h3
      go_enter Tryd.func56, Tryd.ntmps56
      go_wp2
      go_ret
      exact ⟨rfl, rfl⟩
    · rw [decide_eq_false (fun h => by omega)]
      have e2 : (R.st == 3) = false := by simpa using h3
      clear h2 h3
      go_enter Tryd.func56, Tryd.ntmps56
      go_wp2
      go_ret
      exact ⟨rfl, rfl⟩

theorem count_snoc {l : List Bool} {k : Nat} {v : Bool} (h : l[k]? = some v) : (l.take (k + 1)).count true = (l.take k).count true + (if v then 1 else 0) := by
  rw [take_snoc h, List.count_append]
  cases v <;> rfl

set_option maxRecDepth 100000 in
set_option maxHeartbeats 1600000 in
theorem most_any (R : Rnd) (w : World) (rb ab : Nat) (h : RndAt K0 w rb ab R) :
    Calls Tryd.prog 54 #[.pointer (some ⟨rb, 0, none⟩)] w fun e w' => e = .returned (.bool R.v.most) ∧ w = w' := by
  have c0 : w.cell? ⟨rb, 0, none⟩ = some (.slice (some ⟨ab, 0, none⟩) R.an.length R.an.length) := h.o.cell rfl
  obtain ⟨n1, n7⟩ := h.n7
  have hm := fun w => half_any (R.an.length : Int) w (by omega) (by omega)
  replace hm := Lib.hid hm
  obtain ⟨mb, hmb⟩ : ∃ mb, mb = R.v.most := ⟨_, rfl⟩
  rw [← hmb]
  replace hmb := Lib.hid hmb
  go_enter Tryd.func54, Tryd.ntmps54
  go_wp2_with fail
  go_loopw [11, 3] (fun iv v wr => ∃ k : Nat, k ≤ R.an.length ∧ iv = .int .i64 k ∧ v = .int .i64 ((R.an.take k).count true : Nat) ∧ wr = w) (fun iv _ _ => R.an.length - (intOf iv).toNat)
  case atStart => exact ⟨0, Nat.zero_le _, rfl, rfl, rfl⟩
  case round =>
    obtain ⟨k, hk, rfl, rfl, rfl⟩ := hrel
    by_cases hlt : k < R.an.length
    · obtain ⟨d, hd⟩ := get_some R.an k hlt
      have ca := h.an hd
      have hc := count_snoc hd
      have hcl : (R.an.take k).count true ≤ k := Nat.le_trans List.count_le_length (by simp; omega)
      generalize hcn : (R.an.take k).count true = cn at *
      cases d with
      | true =>
        replace hc := Lib.hid hc
        clear hcn hd
        go_wp2_with fail
        go_roundw
        case rel => exact ⟨k + 1, by omega, by go_num, by rw [hc.out]; go_num, trivial⟩
        case measure => simp [intOf]; omega
      | false =>
        replace hc := Lib.hid hc
        clear hcn hd
        go_wp2_with fail
        go_roundw
        case rel => exact ⟨k + 1, by omega, by go_num, by rw [hc.out]; go_num, trivial⟩
        case measure => simp [intOf]; omega
    · have hall : R.an.take k = R.an := List.take_of_length_le (by omega)
      rw [hall]
      have hmost : mb = decide ((R.an.length : Int) / 2 + 1 ≤ (R.an.count true : Nat)) := by
        rw [hmb.out]
        unfold RndV.most
        dsimp only
        exact decide_eq_decide.2 (by omega)
      replace hmost := Lib.hid hmost
      go_wp2_with fail
      refine (hm.out _).mono ?_
      rintro e w1 ⟨rfl, rfl⟩
      go_wp2_with fail
      go_ret
      exact ⟨retb hmost.out.symm, rfl⟩
end Go.Proofs.YtblfljpmkgmjaaaDoor
