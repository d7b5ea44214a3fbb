/- The reference's round: an answer is noted; Accepted. -/
import Derived.Test.YtblfljpmkgmjaaaDoorQ3
import Derived.Deep.AppendLies
namespace Go.Proofs.YtblfljpmkgmjaaaDoor
open Go.RowKit
variable {K0 : Nat → Prop}

theorem GrX.grown2 {S : List Nat} {w a w' : World} {row : Option Nat} (h : GrX S w a) (hg : a.grownBy w' row) (hr : ∀ k, row = some k → k ∈ S ∨ w.heap.size ≤ k) : GrX S w w' := by
  obtain ⟨g1, g2, g3, g4, g5⟩ := hg
  refine ⟨g1.trans h.os, g2.trans h.tape, g3.trans h.output, Nat.le_trans h.size g4, fun k hk hn => ?_⟩
  rw [g5 k (Nat.lt_of_lt_of_le hk h.size) (fun e => by rcases hr k e.symm with h1 | h1; exact hn h1; omega)]
  exact h.block k hk hn
theorem blk_grown {w w' : World} {b : Nat} {cs : Array Value} {t : TypeId} {row : Option Nat} (h : Blk w b cs t) (hg : w.grownBy w' row) (hn : some b ≠ row) : Blk w' b cs t := by unfold Blk; rw [hg.block b h.lt hn]; exact h
/-- What a method of the reference's round gives, and what the round knows then. -/
def RnP (K0 : Nat → Prop) (mb : Nat) (own : List Nat) (v : Value) (r : RndV) (w : World) (e : Ending) (w' : World) : Prop := e = .returned v ∧ ∃ M', RnAt K0 w' mb M' ∧ M'.v = r ∧ GrX own w w' ∧ ∀ y, y ∈ M'.own mb → y ∈ own ∨ w.heap.size ≤ y
theorem RnM.own_blk {M : RnM} {mb y : Nat} (h : (Value.slice M.ha M.hs.length M.hc).ownBlock = some y) : y ∈ M.own mb := by
  cases hM : M.ha with
  | none => rw [hM] at h; simp [Value.ownBlock] at h
  | some x => rw [hM] at h; simp [Value.ownBlock] at h; subst h; simp [RnM.own, hM]
theorem RnAt.ltOwn {w : World} {mb : Nat} {M : RnM} (h : RnAt K0 w mb M) {y : Nat} (hy : y ∈ M.own mb) : y < w.heap.size := by
  rcases List.mem_cons.1 hy with rfl | hy
  · exact h.o.lt
  · exact (h.hblk hy).2
/-- One answer more. -/
theorem RnAt.noted {w wz w7 : World} {mb : Nat} {M : RnM} (h : RnAt K0 w mb M) (f g c7 : Nat) (gz : Gr w wz) (hf : f < M.nd) (hn : f ∉ M.hs)
    (hown : w7.ownsRow (mb + 1) 3 1 (.slice (some ⟨g, 0, none⟩) (M.hs.length + 1) c7) (M.hs.length + 1) ((ints M.hs).flatMap inC ++ [.int .i64 f])) (hgr : wz.grownBy w7 (Value.slice M.ha M.hs.length M.hc).ownBlock)
    (hat : (Value.slice M.ha M.hs.length M.hc).ownBlock = some g ∨ g = wz.heap.size) :
    RnAt K0 (w7.setCell ⟨mb, 15, none⟩ (.slice (some ⟨g, 0, none⟩) (M.hs.length + 1) c7)) mb {M with hs := M.hs ++ [f], ha := some ⟨g, 0, none⟩, hc := c7} ∧ GrX (M.own mb) w (w7.setCell ⟨mb, 15, none⟩ (.slice (some ⟨g, 0, none⟩) (M.hs.length + 1) c7)) ∧ ∀ y, y ∈ [mb, g] → y ∈ M.own mb ∨ w.heap.size ≤ y := by
  have gx : GrX (M.own mb) w w7 := (gz.x _).grown2 hgr (fun k hk => .inl (RnM.own_blk hk))
  have gx8 := gx.set (p := ⟨mb, 15, none⟩) (.inl (List.mem_cons_self ..)) (.slice (some ⟨g, 0, none⟩) (M.hs.length + 1) c7)
  have hg : g ∈ M.own mb ∨ w.heap.size ≤ g := by
    rcases hat with h1 | h1
    · exact .inl (RnM.own_blk h1)
    · have := gz.size; exact .inr (by omega)
  have hmg : mb + 1 ≤ g := by
    have := owns_lt hown g rfl
    exact this.2
  have hT : ∀ y, y ∈ M.own mb → ¬ (y ∉ M.own mb ∧ K0 y) := fun y hy h1 => h1.1 hy
  have hK : ∀ b, b < w.heap.size → (b ∉ M.own mb ∧ K0 b) → (b ∉ [mb, g] ∧ K0 b) ∧ b ∉ M.own mb := fun b hb h1 => by
    refine ⟨⟨fun hm => ?_, h1.2⟩, h1.1⟩
    rcases List.mem_cons.1 hm with rfl | hm
    · exact h1.1 (List.mem_cons_self ..)
    · obtain rfl := List.mem_singleton.1 hm
      rcases hg with hg | hg
      · exact h1.1 hg
      · omega
  refine ⟨⟨?_, h.n7, ?_, ?_, h.lc, h.cap, ?_, ?_, ?_⟩, gx8, ?_⟩
  · have h1 : Blk w7 mb M.row 110 := blk_grown (h.o.gr gz) hgr (fun e => by
      have := owns_lt h.h mb e.symm
      omega)
    have h2 := h1.set 15 (.slice (some ⟨g, 0, none⟩) (M.hs.length + 1) c7)
    have e : (M.row.setIfInBounds 15 (.slice (some ⟨g, 0, none⟩) (M.hs.length + 1) c7)) = ({M with hs := M.hs ++ [f], ha := some ⟨g, 0, none⟩, hc := c7} : RnM).row := by
      simp [RnM.row]
    rw [← e]
    exact h2
  · exact (((h.x.mono hK).grx gx8 (fun y hy h1 => h1.2 hy)).mono (fun b _ h1 => h1.1))
  · exact (((h.l.mono hK).grx gx8 (fun y hy h1 => h1.2 hy)).mono (fun b _ h1 => h1.1))
  · have e1 : (ints (M.hs ++ [f])).flatMap inC = (ints M.hs).flatMap inC ++ [.int .i64 f] := by simp [ints]
    have e2 : (ints (M.hs ++ [f])).length = M.hs.length + 1 := by simp [ints]
    have e3 : (M.hs ++ [f]).length = M.hs.length + 1 := by simp
    show (w7.setCell _ _).ownsRow (mb + 1) _ 1 (.slice _ (M.hs ++ [f]).length c7) (ints (M.hs ++ [f])).length ((ints (M.hs ++ [f])).flatMap inC)
    rw [e1, e2, e3]
    refine owns_gx (S := [mb]) hown ((GrX.refl _ _).set (.inl (by simp)) _) (fun x hx => ?_)
    have := owns_lt hown x hx
    simp
    omega
  · intro i hi
    rcases List.mem_append.1 hi with hi | hi
    · exact h.hn i hi
    · rw [List.mem_singleton.1 hi]; exact hf
  · show (ansOf M.nd (M.hs ++ [f])).count true = (M.hs ++ [f]).length
    rw [ansOf_note, count_set _ _ (by rw [ansOf_get hf]; simp [hn]), h.ct, List.length_append]
    rfl
  · intro y hy
    rcases List.mem_cons.1 hy with rfl | hy
    · exact .inl (List.mem_cons_self ..)
    · obtain rfl := List.mem_singleton.1 hy
      exact hg
theorem RnM.v_note (M : RnM) (f : Nat) (a : Option Addr) (c : Nat) : ({M with hs := M.hs ++ [f], ha := a, hc := c} : RnM).v = M.v.note f := by
  show (⟨ansOf M.nd (M.hs ++ [f]), M.x.e, M.reads, M.bal, M.st, M.nw, M.led.map (·.e), M.begun⟩ : RndV) = _
  rw [ansOf_note]
  rfl
theorem RnAt.most {w : World} {mb : Nat} {M : RnM} (h : RnAt K0 w mb M) : M.v.most = decide ((M.nd : Int) < 2 * (M.hs.length : Int)) := by
  show decide ((ansOf M.nd M.hs).length / 2 + 1 ≤ (ansOf M.nd M.hs).count true) = _
  rw [ansOf_len, h.ct]
  exact decide_eq_decide.2 (by omega)
theorem RnAt.stage {w : World} {mb : Nat} {M : RnM} (h : RnAt K0 w mb M) (s : Int) : RnAt K0 (w.setCell ⟨mb, 14, none⟩ (.int .i64 s)) mb {M with st := s} := h.set 14 _ rfl rfl rfl rfl rfl rfl rfl rfl rfl
end Go.Proofs.YtblfljpmkgmjaaaDoor
