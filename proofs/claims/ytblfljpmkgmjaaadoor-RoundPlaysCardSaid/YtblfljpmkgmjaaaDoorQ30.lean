/- Two pairs of rounds, side by side. RoundPlays: what its parts lean on. -/
import Derived.Test.YtblfljpmkgmjaaaDoorQ25
import Derived.Test.YtblfljpmkgmjaaaDoorQ27
import Derived.Test.YtblfljpmkgmjaaaDoorQ29
namespace Go.Proofs.YtblfljpmkgmjaaaDoor
open Go.RowKit

theorem Pair.ltT {K : Nat → Prop} {w : World} {rb ab mb : Nat} {R : Rnd} {M : RnM} (h : Pair K w rb ab mb R M) {y : Nat} (hy : y ∈ pairT rb ab mb M) : y < w.heap.size := by
  rcases List.mem_cons.1 hy with rfl | hy
  · exact h.r.o.lt
  · rcases List.mem_cons.1 hy with rfl | hy
    · exact h.r.b.lt
    · exact h.m.ltOwn hy
/-- Two pairs: neither's calls turn what the other's use; X: the walk's own blocks. -/
structure Two (X : List Nat) (W0 w : World) (rb ab mb : Nat) (R : Rnd) (M : RnM) (rb' ab' mb' : Nat) (R' : Rnd) (M' : RnM) : Prop where
  p : Pair (fun b => b ∉ pairT rb' ab' mb' M') w rb ab mb R M
  q : Pair (fun b => b ∉ pairT rb ab mb M) w rb' ab' mb' R' M'
  d : ∀ y ∈ pairT rb ab mb M, y ∉ pairT rb' ab' mb' M'
  lo : ∀ y ∈ pairT rb ab mb M, W0.heap.size ≤ y ∧ y ∉ X
  lo' : ∀ y ∈ pairT rb' ab' mb' M', W0.heap.size ≤ y ∧ y ∉ X
  g : Gr W0 w
section
variable {X : List Nat} {W0 w : World} {rb ab mb rb' ab' mb' : Nat} {R R' : Rnd} {M M' : RnM}
theorem Two.swap (h : Two X W0 w rb ab mb R M rb' ab' mb' R' M') : Two X W0 w rb' ab' mb' R' M' rb ab mb R M := ⟨h.q, h.p, fun y hy hz => h.d y hz hy, h.lo', h.lo, h.g⟩
theorem Two.gr {w2 : World} (h : Two X W0 w rb ab mb R M rb' ab' mb' R' M') (g : Gr w w2) : Two X W0 w2 rb ab mb R M rb' ab' mb' R' M' := ⟨h.p.gr g, h.q.gr g, h.d, h.lo, h.lo', h.g.trans g⟩
theorem Two.step {w2 : World} {R2 : Rnd} {M2 : RnM} (hX : ∀ y ∈ X, y < w.heap.size) (h : Two X W0 w rb ab mb R M rb' ab' mb' R' M') (hp : Pair (fun b => b ∉ pairT rb' ab' mb' M') w2 rb ab mb R2 M2) (gx : GrX (pairT rb ab mb M) w w2) (ho : ∀ y, y ∈ M2.own mb → y ∈ M.own mb ∨ w.heap.size ≤ y) : Two X W0 w2 rb ab mb R2 M2 rb' ab' mb' R' M' := by
  have ho2 : ∀ y ∈ pairT rb ab mb M2, y ∈ pairT rb ab mb M ∨ w.heap.size ≤ y := fun y hy => by
    rcases List.mem_cons.1 hy with rfl | hy
    · exact .inl (List.mem_cons_self ..)
    · rcases List.mem_cons.1 hy with rfl | hy
      · exact .inl (List.mem_cons_of_mem _ (List.mem_cons_self ..))
      · rcases ho y hy with h1 | h1
        · exact .inl (List.mem_cons_of_mem _ (List.mem_cons_of_mem _ h1))
        · exact .inr h1
  refine ⟨hp, ?_, fun y hy hz => ?_, fun y hy => ?_, h.lo', gx.all h.g (fun y hy => (h.lo y hy).1)⟩
  · have h1 := h.q.mono (K' := fun b => b ∉ pairT rb ab mb M ∧ b ∉ pairT rb ab mb M2) (fun b hb hk => ⟨hk, fun hm => by rcases ho2 b hm with h2 | h2; exact hk h2; omega⟩)
    exact (h1.away gx (fun y hy => h.d y hy) (fun y hy hk => hk.1 hy)).mono (fun b _ hk => hk.2)
  · rcases ho2 y hy with h1 | h1
    · exact h.d y h1 hz
    · have := h.q.ltT hz; omega
  · rcases ho2 y hy with h1 | h1
    · exact h.lo y h1
    · exact ⟨Nat.le_trans h.g.size h1, fun hx => by have := hX y hx; omega⟩
end
/-- Two pairs that were made one behind the other. -/
theorem two_of {X : List Nat} {W0 w : World} {rb ab mb rb' ab' mb' : Nat} {R R' : Rnd} {M M' : RnM} {B0 S B1 : Nat} (hp : Pair (fun b => (b < W0.heap.size ∨ B0 ≤ b) ∧ b < S) w rb ab mb R M) (hq : Pair (fun b => b < W0.heap.size ∨ B1 ≤ b) w rb' ab' mb' R' M') (l0 : ∀ y ∈ pairT rb ab mb M, B0 ≤ y ∧ y < S) (l1 : ∀ y ∈ pairT rb' ab' mb' M', B1 ≤ y) (h1 : S ≤ B1) (h0 : W0.heap.size ≤ B0) (hX : ∀ x ∈ X, x < B0) (g : Gr W0 w) : Two X W0 w rb ab mb R M rb' ab' mb' R' M' := by
  have hb01 : ∀ y ∈ pairT rb ab mb M, B0 ≤ y ∧ y < B1 := fun y hy => ⟨(l0 y hy).1, by have := (l0 y hy).2; omega⟩
  refine ⟨hp.mono (fun b _ hk hm => by have := l1 b hm; omega), hq.mono (fun b _ hk hm => ?_), fun y hy hz => by have := (l0 y hy).2; have := l1 y hz; omega, fun y hy => ⟨by have := (l0 y hy).1; omega, fun hx => by have := (l0 y hy).1; have := hX y hx; omega⟩, fun y hy => ⟨?_, fun hx => ?_⟩, g⟩
  · have h2 := l0 b hm
    rcases hk with hk | hk <;> omega
  · have h2 := l1 y hy
    have h3 := l0 rb (List.mem_cons_self ..)
    omega
  · have h2 := l1 y hy
    have h3 := l0 rb (List.mem_cons_self ..)
    have := hX y hx
    omega


/-- x & 1. -/
theorem and1 (x : Int) : bits BinOp.and IntKind.i64 x 1 = 0 ∨ bits BinOp.and IntKind.i64 x 1 = 1 := by
  have e : bits BinOp.and IntKind.i64 x 1 = IntKind.i64.wrap ((BitVec.ofInt 64 x &&& BitVec.ofInt 64 1).toNat : Int) := by rfl
  have h : (BitVec.ofInt 64 x &&& BitVec.ofInt 64 1).toNat = (BitVec.ofInt 64 x).toNat % 2 := by
    rw [BitVec.toNat_and]
    rw [show (BitVec.ofInt 64 1).toNat = 1 from by decide, Nat.and_one_is_mod]
  rw [e, h]
  rcases Nat.mod_two_eq_zero_or_one (BitVec.ofInt 64 x).toNat with h0 | h0 <;> rw [h0]
  · exact .inl (by decide)
  · exact .inr (by decide)
/-- A pair that is made anew. -/
theorem pair_new {W w4 w5 : World} {B0 n rb ab mb : Nat} {x : EntM} {reads : Bool} {R : Rnd} (hr : RndAt (fun b => B0 ≤ b) w4 rb ab R) (hv : R.v = RndV.new n x.e reads) (h1 : B0 ≤ rb) (h2 : B0 ≤ ab) (g : Gr w4 w5) (hm : RnAt (fun b => b ≠ rb ∧ b ≠ ab ∧ (b < W.heap.size ∨ B0 ≤ b)) w5 mb (RnM.new n x reads)) (h3 : w4.heap.size ≤ mb) :
    Pair (fun b => b < W.heap.size ∨ B0 ≤ b) w5 rb ab mb R (RnM.new n x reads) ∧ ∀ y ∈ pairT rb ab mb (RnM.new n x reads), B0 ≤ y := by
  have z1 := hr.o.lt
  have z2 := hr.b.lt
  have ho : (RnM.new n x reads).own mb = [mb] := rfl
  refine ⟨⟨(hr.mono (fun b hb hk => ⟨by rw [ho]; simp; omega, .inr hk⟩)).gr g, hm, by rw [ho]; simp; omega, by rw [ho]; simp; omega, by rw [hv, RnM.v_new]⟩, fun y hy => ?_⟩
  unfold pairT at hy
  rw [ho] at hy
  simp at hy
  rcases hy with rfl | rfl | rfl <;> omega
/-- Both refuse alike. -/
def Refused (E : Nat → Addr) (W : World) (n : Int) (x : EntM) : Prop := ∃ (k g : Nat), sentG[k]? = some g ∧
  (∀ w a c, (⟨x.e, a, c⟩ : EntM).ok Any w → Gr W w → Calls Tryd.prog 12 #[.int .i64 n, .agg #[.int .i64 x.e.cl, .int .i64 x.e.nu, .int .i64 x.e.kd, .int .i64 x.e.id, .int .i64 x.e.srv.k, .int .i64 x.e.srv.q, .int .i64 x.e.srv.t, .int .i64 x.e.po, .slice a x.e.tasks.length c, .int .i64 x.e.at_], .bool false] w fun e w' => e = .returned (.tuple #[.pointer none, senV E g]) ∧ Gr w w') ∧
  (∀ w, Gr W w → Calls Tryd.prog 27 #[.int .i64 n, .agg #[.int .i64 x.e.cl, .int .i64 x.e.nu, .int .i64 x.e.kd, .int .i64 x.e.id, .int .i64 x.e.srv.k, .int .i64 x.e.srv.q, .int .i64 x.e.srv.t, .int .i64 x.e.po, .slice x.a x.e.tasks.length x.c, .int .i64 x.e.at_], .bool false] w fun e w' => e = .returned (.tuple #[.pointer none, .int .i64 ((k : Int) + 1)]) ∧ Gr w w')
theorem refused_num {G : List Nat} {E : Nat → Addr} {W : World} (hE : EAt G E W) (hG : ∀ g ∈ sentG, g ∈ G) (n : Int) (x : EntM) (hn : n < 1 ∨ 7 < n) : Refused E W n x :=
  ⟨0, _, rfl, fun w a c _ g => new_num n ⟨x.e, a, c⟩ false w (hE.gr g) (hG _ (by decide)) hn, fun w _ => rnew_num n x false w hn⟩
theorem refused_form {G : List Nat} {E : Nat → Addr} {W : World} (hE : EAt G E W) (hG : ∀ g ∈ sentG, g ∈ G) (n : Int) (x : EntM) (hx : x.ok Any W) (h1 : ¬ n < 1) (h7 : ¬ 7 < n) (hf : entF x.e = false) : Refused E W n x :=
  ⟨15, _, rfl, fun w a c h g => new_form n ⟨x.e, a, c⟩ w (hE.gr g) (hG _ (by decide)) h h1 h7 hf, fun w g => rnew_form n x w (hx.gr g) h1 h7 hf⟩
/-- A list of one entry. -/
theorem one_ent {L : List EntM} {e : Ent} (h : L.map (·.e) = [e]) : ∃ a c, L = [⟨e, a, c⟩] := by
  match L, h with
  | [⟨e', a, c⟩], h => simp at h; subst h; exact ⟨a, c, rfl⟩
/-- Behind the making of both rounds. -/
def Inv1 (U : World) (s m n : Nat) (x : EntM) (wr : World) : Prop := ∃ rb ab mb R B0, Blk wr s #[.pointer (some ⟨rb, 0, none⟩), .pointer none] 58 ∧ Blk wr m #[.pointer (some ⟨mb, 0, none⟩), .pointer none] 60 ∧ Gr U wr ∧
  Pair (fun b => b < U.heap.size ∨ B0 ≤ b) wr rb ab mb R (RnM.new n x false) ∧ (∀ y ∈ pairT rb ab mb (RnM.new n x false), B0 ≤ y) ∧ U.heap.size ≤ B0 ∧ s < B0 ∧ m < B0 ∧ R.begun = 0
def Inv2 (U : World) (s m : Nat) (i : Int) (wr : World) : Prop := ∃ r0 a0 m0 R0 M0 r1 a1 m1 R1 M1, Blk wr s #[.pointer (some ⟨r0, 0, none⟩), .pointer (some ⟨r1, 0, none⟩)] 58 ∧ Blk wr m #[.pointer (some ⟨m0, 0, none⟩), .pointer (some ⟨m1, 0, none⟩)] 60 ∧
  Two [s, m] U wr r0 a0 m0 R0 M0 r1 a1 m1 R1 M1 ∧ (0 ≤ R0.begun ∧ R0.begun ≤ i) ∧ (0 ≤ R1.begun ∧ R1.begun ≤ i)
end Go.Proofs.YtblfljpmkgmjaaaDoor
