/- wire.Writer: NewWriter, Num, Bytes, Done; slices.Clone of bytes; desk.framed. slices.Clone of bytes; wire.Writer.Done; desk.framed. -/
import Derived.Test.YtlgbnjaoadlolaaDoorP3
namespace Go.Proofs.YtlgbnjaoadlolaaDoor
open Go.RowKit

/-- append(own, src...), and where the new row lies. -/
theorem wpList_append_at {α : Type} {k : Nat} {enc : α → List Value} {P : Program} {w : World} {ops : Array Oper} {rest : List Oper} {o : Oper} {a : Act} {Q : Exit → Act → World → Prop} (hgd : o.guard = none) (s x : Operand) (t : TypeId)
    (ho : o.op = .call { callee := .builtin .append, args := #[s, x], argTypes := #[t, t] })
    (base : Nat) (e : TypeId) (i : TypeInfo) (z : Value) (bytes : Nat) (ht : P.underlying t = some (.slice e)) (hi : P.info? e = some i) (hz : i.zero = some z)
    (hsize : i.size = k) (hby : i.bytes = bytes) (hzs : z.cells.size = k) (hsz : 0 < k)
    (hk : ∀ s, (enc s).length = k) (h1 : ∀ s, ∀ u ∈ enc s, u.oneCell' = true)
    (v : Value) (l0 : List α) (hs : a.eval s = v) (hown : w.ownsRow base e k v l0.length (l0.flatMap enc))
    (sa : Option Addr) (c : Nat) (l : List α) (hx : a.eval x = .slice sa l.length c) (hl : RecsAt k enc w sa l) (hc : sa = none → c = 0)
    (h63 : l0.length + l.length ≤ maxLen) (hbytes : (l0.length + l.length) * bytes ≤ 140737488355328) (hbase : base ≤ w.heap.size)
    (h : ∀ v' w', w'.ownsRow base e k v' (l0 ++ l).length ((l0 ++ l).flatMap enc) → w.grownBy w' v.ownBlock → (v'.ownBlock = v.ownBlock ∨ v'.ownBlock = some w.heap.size) → wpList P ops Q rest (a.put o.dst v') w') : wpList P ops Q (o :: rest) a w := by
  cases sa with
  | none =>
    obtain rfl := hc rfl
    obtain rfl : l = [] := by
      cases l with
      | nil => rfl
      | cons y r => obtain ⟨b, off, hh, _⟩ := hl 0 y rfl; cases hh
    refine wpList_append_own_none hgd s x t ho base e i k ht hi v l0.length (l0.flatMap enc) hs hown hx ?_
    exact h v w (by simpa using hown) ⟨rfl, rfl, rfl, Nat.le_refl _, fun _ _ _ => rfl⟩ (.inl rfl)
  | some ad =>
    refine wpList_append_own_at w hgd s x t ho base e i z k bytes ht hi hz hsize hby hzs hsz v l0.length (l0.flatMap enc) hs hown ad l.length c (l.flatMap enc) hx (flat_len hk l) ?_ ?_ h63 hbytes hbase ?_
    · intro j u hj
      obtain ⟨y, hy, hu⟩ := flat_at hk hsz l j u hj
      obtain ⟨b, off, hh, _, hcell⟩ := hl _ y hy
      obtain rfl := Option.some.inj hh
      have := hcell _ u hu
      have e1 : off + j / k * k + j % k = off + j := by rw [Nat.add_assoc, Nat.mul_comm, Nat.div_add_mod]
      rw [e1] at this
      unfold Addr.add
      by_cases hj0 : j = 0
      · subst hj0; simpa using this
      · simpa [hj0] using this
    · intro u hu
      obtain ⟨y, _, hy⟩ := List.mem_flatMap.1 hu
      exact h1 y u hy
    · intro v' w' ho' hg' _ h5
      exact h v' w' (by simpa using ho') hg' h5
theorem Blk.grown {w w' : World} {b : Nat} {cs : Array Value} {t : TypeId} {row : Option Nat} (h : Blk w b cs t) (hg : w.grownBy w' row) (hn : some b ≠ row) : Blk w' b cs t := by unfold Blk; rw [hg.block b h.lt hn]; exact h
theorem BytesAt.grown {w w' : World} {a : Option Addr} {l : List UInt8} {row : Option Nat} (h : BytesAt w a l) (hg : w.grownBy w' row) (hne : ∀ x, a = some x → l ≠ [] → row ≠ some x.block) : BytesAt w' a l := RecsAt.grown h hg hne

/-- A number's bytes. -/
def numB (n : Nat) : List UInt8 := if h : n < 128 then [UInt8.ofNat n] else UInt8.ofNat (n % 128 + 128) :: numB (n / 128)
termination_by n
decreasing_by omega
theorem numB_small {n : Nat} (h : n < 128) : numB n = [UInt8.ofNat n] := by rw [numB, dif_pos h]
theorem numB_great {n : Nat} (h : ¬ n < 128) : numB n = UInt8.ofNat (n % 128 + 128) :: numB (n / 128) := by rw [numB, dif_neg h]
theorem numB_len : ∀ (k : Nat) {n : Nat}, n < 128 ^ (k + 1) → (numB n).length ≤ k + 1
  | k, n, h => by
    by_cases hs : n < 128
    · rw [numB_small hs]; simp
    · rw [numB_great hs]
      cases k with
      | zero => simp at h; omega
      | succ k =>
        have := numB_len k (n := n / 128) (by rw [Nat.pow_succ] at h; exact Nat.div_lt_of_lt_mul (by rw [Nat.mul_comm]; exact h))
        simp
        omega
theorem numB_10 {n : Nat} (h : n < 9223372036854775808) : (numB n).length ≤ 10 := numB_len 9 (by omega)
theorem numB_6 {n : Nat} (h : n ≤ 1099511627776) : (numB n).length ≤ 6 := numB_len 5 (by omega)

/-- A writer: what it has put. -/
def WrAt (W w : World) (wb B : Nat) (L : List UInt8) : Prop := ∃ a c, Blk w wb #[.slice a L.length c, .bool false] 99 ∧ Own W w a c L ∧ W.heap.size ≤ wb ∧ wb < B ∧ (∀ x, a = some x → x.block < B ∧ x.block ≠ wb) ∧ B ≤ w.heap.size
theorem WrAt.gr {W w w' : World} {wb B : Nat} {L : List UInt8} (h : WrAt W w wb B L) (g : Gr w w') : WrAt W w' wb B L := by
  obtain ⟨a, c, h1, h2, h3, h4, h5, h6⟩ := h
  exact ⟨a, c, h1.gr g, h2.gr g, h3, h4, h5, Nat.le_trans h6 g.size⟩
theorem WrAt.world {W w : World} {wb B : Nat} {L : List UInt8} (h : WrAt W w wb B L) : Gr W w := by
  obtain ⟨a, c, h1, h2, _⟩ := h
  exact h2.2.2.2.2
theorem WrAt.full {W w : World} {wb B : Nat} {L : List UInt8} (h : WrAt W w wb B L) : WrAt W w wb w.heap.size L := by
  obtain ⟨a, c, h1, h2, h3, h4, h5, h6⟩ := h
  exact ⟨a, c, h1, h2, h3, by omega, fun x hx => ⟨by have := (h5 x hx).1; omega, (h5 x hx).2⟩, Nat.le_refl _⟩
theorem newWriter_any (w : World) : Calls Tryd.prog 26 #[] w fun e w' => e = .returned (.pointer (some ⟨w.heap.size, 0, none⟩)) ∧ WrAt w w' w.heap.size w'.heap.size [] := by
  go_enter Tryd.func26, Tryd.ntmps26
  go_wp2_with fail
  go_ret
  exact ⟨rfl, none, 0, Blk.new w _ _, Own.nil w _ ((Gr.refl w).alloc _), Nat.le_refl _, by simp, (fun x hx => by cases hx), Nat.le_refl _⟩

theorem or128 {m : Nat} (h : m < 128) : bits .or .u8 (m : Int) 128 = ((m + 128 : Nat) : Int) := by
  have := (bits_nat .u8 8 (by decide) wraps_u8 m 128 (by omega) (by omega)).2
  rw [Nat.or_comm, show (128 : Nat) = 2 ^ 7 * 1 from rfl, ← Nat.two_pow_add_eq_or_of_lt (by omega) 1] at this
  rw [show ((2 ^ 7 * 1 : Nat) : Int) = 128 from rfl] at this
  rw [this]
  omega
theorem and127 (n : Nat) (h : n < 9223372036854775808) : bits .and .i64 (n : Int) 127 = ((n % 128 : Nat) : Int) :=
  bits_mask .i64 63 (by decide) (fun n h₀ h₁ => by rw [IntKind.wrap_i64]; omega) 7 (by decide) n (by omega) (by omega)
theorem byte_cell (n : Nat) (h : n < 256) : #[Value.int .u8 (n : Int)].toList = [UInt8.ofNat n].flatMap byteC := by
  have e : ((UInt8.ofNat n).toNat : Int) = (n : Int) := by rw [UInt8.toNat_ofNat']; omega
  simp only [List.flatMap_cons, List.flatMap_nil, byteC, e]
  rfl

theorem own_blk {a : Option Addr} {n c : Nat} {x : Addr} (h : a = some x) : (Value.slice a n c).ownBlock = some x.block := by subst h; rfl
theorem owns_set {w : World} {base : Nat} {e : TypeId} {size : Nat} {v : Value} {n : Nat} {xs : List Value} (h : w.ownsRow base e size v n xs) {p : Addr} (hp : ∀ g, v.ownBlock = some g → g ≠ p.block) (u : Value) : (w.setCell p u).ownsRow base e size v n xs := by
  refine ⟨h.1, ?_⟩
  rcases h.2 with hn | ⟨b, cap, cur, h1, h2, h3, h4⟩
  · exact .inl hn
  · refine .inr ⟨b, cap, cur, h1, h2, ?_, h4⟩
    rw [heap_setCell_other w p b u (hp b (by rw [h1]; rfl))]
    exact h3
theorem BytesAt.set {w : World} {a : Option Addr} {l : List UInt8} (h : BytesAt w a l) {p : Addr} (hp : ∀ x, a = some x → x.block ≠ p.block) (u : Value) : BytesAt (w.setCell p u) a l := by
  intro i s hi
  obtain ⟨b, off, ha, hb, hc⟩ := h i s hi
  refine ⟨b, off, ha, by simp; exact hb, fun j v hv => ?_⟩
  have hne : b ≠ p.block := hp _ ha
  rw [World.cell?_of_block (heap_setCell_other w p b u hne)]
  exact hc j v hv
theorem Own.set {W w : World} {a : Option Addr} {c : Nat} {l : List UInt8} (h : Own W w a c l) {p : Addr} (hp : ∀ x, a = some x → x.block ≠ p.block) (hW : W.heap.size ≤ p.block) (u : Value) : Own W (w.setCell p u) a c l := by
  obtain ⟨h1, h2, h3, h4, h5⟩ := h
  refine ⟨owns_set h1 (fun g hg => ?_) u, h2.set hp u, h3, h4, h5.setCell hW u⟩
  cases a with
  | none => cases hg
  | some x => cases hg; exact hp x rfl
theorem Own.lt {W w : World} {a : Option Addr} {c : Nat} {l : List UInt8} (h : Own W w a c l) {x : Addr} (hx : a = some x) : x.block < w.heap.size := (owns_lt h.1 _ (own_blk hx)).1
/-- A writer since w0: what lay in the blocks from B on is as it was. -/
def WrK (W w0 w : World) (wb B : Nat) (L : List UInt8) : Prop := ∃ a c, Blk w wb #[.slice a L.length c, .bool false] 99 ∧ Own W w a c L ∧ W.heap.size ≤ wb ∧ wb < B ∧ (∀ x, a = some x → x.block ≠ wb ∧ (x.block < B ∨ w0.heap.size ≤ x.block)) ∧ (∀ k, B ≤ k → k < w0.heap.size → w.heap[k]? = w0.heap[k]?) ∧ w0.heap.size ≤ w.heap.size ∧ B ≤ w0.heap.size
theorem WrAt.k {W w : World} {wb B : Nat} {L : List UInt8} (h : WrAt W w wb B L) : WrK W w w wb B L := by
  obtain ⟨a, c, h1, h2, h3, h4, h5, h6⟩ := h
  exact ⟨a, c, h1, h2, h3, h4, fun x hx => ⟨(h5 x hx).2, .inl (h5 x hx).1⟩, fun _ _ _ => rfl, Nat.le_refl _, h6⟩
theorem WrK.at {W w0 w : World} {wb B : Nat} {L : List UInt8} (h : WrK W w0 w wb B L) : WrAt W w wb w.heap.size L := by
  obtain ⟨a, c, h1, h2, h3, h4, h5, h6, h7, h8⟩ := h
  exact ⟨a, c, h1, h2, h3, h1.lt, fun x hx => ⟨h2.lt hx, (h5 x hx).1⟩, Nat.le_refl _⟩
theorem WrK.put {W w0 wr wm w1 : World} {wb B N n0 c0 : Nat} {a0 : Option Addr} {cs : Array Value} {L2 : List UInt8} {a1 : Option Addr} {c2 : Nat} (hwb : W.heap.size ≤ wb) (hwB : wb < B) (hB : B ≤ w0.heap.size) (hb1 : Blk w1 wb cs 99) (hcs : ∀ v, cs.setIfInBounds 0 v = #[v, .bool false]) (ho1 : Own W w1 a1 c2 L2) (hat : (Value.slice a1 L2.length c2).ownBlock = (Value.slice a0 n0 c0).ownBlock ∨ (Value.slice a1 L2.length c2).ownBlock = some N) (hN : w0.heap.size ≤ N) (hax : ∀ x, a0 = some x → x.block ≠ wb ∧ (x.block < B ∨ w0.heap.size ≤ x.block))
    (hgr : wm.grownBy w1 (Value.slice a0 n0 c0).ownBlock) (hwm : Gr wr wm) (hk : ∀ k, B ≤ k → k < w0.heap.size → wr.heap[k]? = w0.heap[k]?) (h0r : w0.heap.size ≤ wr.heap.size) :
    WrK W w0 (w1.setCell ⟨wb, 0, none⟩ (.slice a1 L2.length c2)) wb B L2 := by
  have hne : ∀ x, a1 = some x → x.block ≠ wb ∧ (x.block < B ∨ w0.heap.size ≤ x.block) := fun x hx => by
    rw [own_blk hx] at hat
    rcases hat with h | h
    · cases a0 with
      | none => cases h
      | some y =>
        have := Option.some.inj h
        rw [this]
        exact hax y rfl
    · rw [Option.some.inj h]
      exact ⟨by omega, .inr hN⟩
  have hs1 : w0.heap.size ≤ w1.heap.size := Nat.le_trans h0r (Nat.le_trans hwm.size hgr.size)
  refine ⟨a1, c2, by rw [← hcs]; exact hb1.set 0 _, ho1.set (fun x hx => (hne x hx).1) hwb _, hwb, hwB, hne, fun k hk1 hk2 => ?_, by simp; exact hs1, hB⟩
  rw [heap_setCell_other w1 ⟨wb, 0, none⟩ k _ (by show k ≠ wb; omega), hgr.block k (by have := hwm.size; omega) (fun e => ?_), hwm.block k (by omega), hk k hk1 hk2]
  cases a0 with
  | none => cases e
  | some y =>
    have h1 := Option.some.inj e
    have h2 := (hax y rfl).2
    rw [← h1] at h2
    omega

set_option maxRecDepth 100000 in
set_option maxHeartbeats 1600000 in
theorem num_any (W w : World) (wb B : Nat) (L : List UInt8) (n : Nat) (h : WrAt W w wb B L) (hm : L.length ≤ 500000) (hn : n < 9223372036854775808) :
    Calls Tryd.prog 27 #[.pointer (some ⟨wb, 0, none⟩), .int .i64 n] w fun e w' => e = .returned (.tuple #[]) ∧ WrK W w w' wb B (L ++ numB n) := by
  obtain ⟨i5, hi, hz0, hz1, hz2⟩ := info_parts Tryd.infoU8
  have hlen := numB_10 hn
  have h0 := h.k
  replace h := Lib.hid h
  replace hlen := Lib.hid hlen
  go_enter Tryd.func27, Tryd.ntmps27
  go_wp2_with fail
  go_loopw [1] (fun nv wr => ∃ (m : Nat) (L' : List UInt8), nv = .int .i64 m ∧ m ≤ n ∧ L' ++ numB m = L ++ numB n ∧ WrK W w wr wb B L') (fun nv _ => (intOf nv).toNat)
  case atStart => exact ⟨n, L, rfl, Nat.le_refl _, rfl, h0⟩
  case round =>
    obtain ⟨m, L', rfl, hmn, heq, hW⟩ := hrel
    have hll : L'.length ≤ 500010 := by
      have h1 := congrArg List.length heq
      rw [List.length_append, List.length_append] at h1
      have := hlen.out
      omega
    obtain ⟨a, c, hb, ho, hwb, hwB, hax, hkp, h0r, hBw⟩ := hW
    have c0 := hb.cell (i := 0) (v := .slice a L'.length c) rfl
    have f0 := hb.free 0
    have ho0 := ho
    obtain ⟨hown, hr, hcn, hbb, g⟩ := ho
    have n3 := g.size
    have n1 : L'.length + 1 ≤ maxLen := by unfold maxLen; omega
    have n2 : (L'.length + 1) * 1 ≤ 140737488355328 := by omega
    have hav := and127 m (by omega)
    have hq1 : m % 128 < 128 := Nat.mod_lt _ (by decide)
    have hov := or128 hq1
    have hne : ∀ q, (Value.slice a L'.length c).ownBlock = some q → q < wr.heap.size ∧ q ≠ wb := fun q hq => by
      cases a with
      | none => cases hq
      | some ad => cases hq; exact ⟨ho0.lt rfl, (hax ad rfl).1⟩
    replace ho0 := Lib.hid ho0
    replace hkp := Lib.hid hkp
    replace hr := Lib.hid hr
    replace hbb := Lib.hid hbb
    replace hax := Lib.hid hax
    replace hb := Lib.hid hb
    replace hne := Lib.hid hne
    by_cases hs : m < 128
    · have hs2 : (m : Int) ≤ 127 := by omega
      rw [numB_small hs] at heq
      have hrc := recs_alloc byteC_len wr [UInt8.ofNat m] 5 #[.int .u8 (m : Int)] (byte_cell m (by omega))
      have hm8 : (m : Int) % 256 = m := by omega
      obtain ⟨L2, hL2⟩ : ∃ L2, L2 = L' ++ [UInt8.ofNat m] := ⟨_, rfl⟩
      rw [← hL2] at heq
      replace heq := Lib.hid heq
      replace hrc := Lib.hid hrc
      replace hL2 := Lib.hid hL2
      go_wp2_with (at_builtin; go_loud (refine wpList_append_one (k := 1) (enc := byteC) rfl _ _ 22 rfl W.heap.size 5 i5 _ 1 Tryd.underlying22 hi hz0 hz1 hz2 rfl (by decide) byteC_len byteC_one (.slice a L'.length c) L' rfl (owns_gr hown ((Gr.refl wr).alloc _)) wr.heap.size 1 (UInt8.ofNat (m)) rfl hrc.out n1 n2 (le_alloc n3 _) ?_; intro v1 w1 hown1 hgr1 hat1; have hb1 := (hb.out.alloc (.cells #[.int .u8 (m : Int)] 5)).grown hgr1 (fun e => (hne.out _ e.symm).2 rfl); have hg1 : Gr W w1 := (g.alloc _).grown hgr1 (own_block hown); rw [← hL2.out] at hown1; obtain ⟨a1, c2, hv1, ho1⟩ := Own.of hown1 hg1; subst hv1; have c1 := hb1.cell (i := 0) (v := .slice a L'.length c) rfl; have f1 := hb1.free 0; have z1 := hb1.lt; have hput := WrK.put (wr := wr) (N := (wr.alloc (.cells #[.int .u8 (m : Int)] 5)).heap.size) hwb hwB hBw hb1 (fun v => rfl) ho1 hat1 (by simp; omega) hax.out hgr1 ((Gr.refl wr).alloc _) hkp.out h0r; replace hput := Lib.hid hput; replace ho1 := Lib.hid ho1; replace hb1 := Lib.hid hb1; clear hown1 hat1))
      go_end0
      exact ⟨rfl, by rw [← heq.out]; exact hput.out⟩
    · have hs2 : ¬ (m : Int) ≤ 127 := by omega
      rw [numB_great hs] at heq
      have hrc := recs_alloc byteC_len wr [UInt8.ofNat (m % 128 + 128)] 5 #[.int .u8 ((m % 128 + 128 : Nat) : Int)] (byte_cell (m % 128 + 128) (by omega))
      rw [show ((m % 128 + 128 : Nat) : Int) = (m : Int) % 128 + 128 by omega] at hrc hov
      rw [show ((m % 128 : Nat) : Int) = (m : Int) % 128 by omega] at hov
      obtain ⟨L2, hL2⟩ : ∃ L2, L2 = L' ++ [UInt8.ofNat (m % 128 + 128)] := ⟨_, rfl⟩
      have heq2 : L2 ++ numB (m / 128) = L ++ numB n := by rw [hL2, ← heq, List.append_assoc]; rfl
      have hdm : (m : Int).fdiv (2 ^ min (Int.toNat 7) IntKind.i64.bits) = ((m / 128 : Nat) : Int) := by
        rw [Int.fdiv_eq_ediv_of_nonneg _ (by decide)]
        rfl
      replace heq := Lib.hid heq
      replace heq2 := Lib.hid heq2
      replace hrc := Lib.hid hrc
      replace hL2 := Lib.hid hL2
      go_wp2_with (at_builtin; go_loud (refine wpList_append_one (k := 1) (enc := byteC) rfl _ _ 22 rfl W.heap.size 5 i5 _ 1 Tryd.underlying22 hi hz0 hz1 hz2 rfl (by decide) byteC_len byteC_one (.slice a L'.length c) L' rfl (owns_gr hown ((Gr.refl wr).alloc _)) wr.heap.size 1 (UInt8.ofNat (m % 128 + 128)) rfl hrc.out n1 n2 (le_alloc n3 _) ?_; intro v1 w1 hown1 hgr1 hat1; have hb1 := (hb.out.alloc (.cells #[.int .u8 ((m : Int) % 128 + 128)] 5)).grown hgr1 (fun e => (hne.out _ e.symm).2 rfl); have hg1 : Gr W w1 := (g.alloc _).grown hgr1 (own_block hown); rw [← hL2.out] at hown1; obtain ⟨a1, c2, hv1, ho1⟩ := Own.of hown1 hg1; subst hv1; have c1 := hb1.cell (i := 0) (v := .slice a L'.length c) rfl; have f1 := hb1.free 0; have z1 := hb1.lt; have hput := WrK.put (wr := wr) (N := (wr.alloc (.cells #[.int .u8 ((m : Int) % 128 + 128)] 5)).heap.size) hwb hwB hBw hb1 (fun v => rfl) ho1 hat1 (by simp; omega) hax.out hgr1 ((Gr.refl wr).alloc _) hkp.out h0r; replace hput := Lib.hid hput; replace ho1 := Lib.hid ho1; replace hb1 := Lib.hid hb1; clear hown1 hat1))
      go_roundw
      case rel => exact ⟨m / 128, L2, by go_num, by omega, heq2.out, hput.out⟩
      case measure => simp [intOf]; omega

theorem BytesAt.same {w w' : World} {a : Option Addr} {l : List UInt8} (h : BytesAt w a l) (hs : w.heap.size ≤ w'.heap.size) (hb : ∀ x, a = some x → l ≠ [] → w'.heap[x.block]? = w.heap[x.block]?) : BytesAt w' a l := by
  intro i s hi
  obtain ⟨b, off, ha, hlt, hc⟩ := h i s hi
  have h1 : w'.heap[b]? = w.heap[b]? := hb _ ha (fun e => by rw [e] at hi; cases hi)
  exact ⟨b, off, ha, by omega, fun j u hu => by rw [World.cell?_of_block h1]; exact hc j u hu⟩
set_option maxRecDepth 100000 in
set_option maxHeartbeats 1600000 in
theorem wbytes_any (W w : World) (wb B : Nat) (L : List UInt8) (a : Option Addr) (c : Nat) (l : List UInt8) (h : WrAt W w wb B L) (hm : L.length ≤ 400000) (hs : BytesAt w a l) (hc : a = none → c = 0) (hx : ∀ x, a = some x → x.block < W.heap.size ∨ (B ≤ x.block ∧ x.block < w.heap.size)) (hl : l.length ≤ 100000) :
    Calls Tryd.prog 28 #[.pointer (some ⟨wb, 0, none⟩), .slice a l.length c] w fun e w' => e = .returned (.tuple #[]) ∧ WrAt W w' wb w'.heap.size (L ++ numB l.length ++ l) := by
  obtain ⟨i5, hi, hz0, hz1, hz2⟩ := info_parts Tryd.infoU8
  have hnum := num_any W w wb B L l.length h (by omega) (by omega)
  have hlen := numB_10 (n := l.length) (by omega)
  have hWw := h.world
  obtain ⟨L1, hL1⟩ : ∃ L1, L1 = L ++ numB l.length := ⟨_, rfl⟩
  have hll : L1.length ≤ 400010 := by rw [hL1, List.length_append]; omega
  rw [← hL1] at hnum ⊢
  obtain ⟨L2, hL2⟩ : ∃ L2, L2 = L1 ++ l := ⟨_, rfl⟩
  rw [← hL2]
  have n1 : L1.length + l.length ≤ maxLen := by unfold maxLen; omega
  have n2 : (L1.length + l.length) * 1 ≤ 140737488355328 := by omega
  replace hnum := Lib.hid hnum
  replace h := Lib.hid h
  replace hs := Lib.hid hs
  replace hx := Lib.hid hx
  replace hL1 := Lib.hid hL1
  replace hL2 := Lib.hid hL2
  go_enter Tryd.func28, Tryd.ntmps28
  go_wp2_with fail
  refine hnum.out.mono ?_
  rintro e w1 ⟨rfl, hW⟩
  obtain ⟨a1, c1, hb, ho, hwb, hwB, hax, hkp, h0r, hBw⟩ := hW
  have c0 := hb.cell (i := 0) (v := .slice a1 L1.length c1) rfl
  have f0 := hb.free 0
  have zwb := hb.lt
  have ho0 := ho
  obtain ⟨hown, hr, hcn, hbb, g⟩ := ho
  have n3 := g.size
  have hs1 : BytesAt w1 a l := hs.out.same h0r (fun x hxx _ => by
    rcases hx.out x hxx with h | h
    · rw [g.block _ h, hWw.block _ h]
    · exact hkp _ h.1 h.2)
  have hne : ∀ q, (Value.slice a1 L1.length c1).ownBlock = some q → q < w1.heap.size ∧ q ≠ wb := fun q hq => by
    cases a1 with
    | none => cases hq
    | some ad => cases hq; exact ⟨ho0.lt rfl, (hax ad rfl).1⟩
  replace hr := Lib.hid hr
  replace hbb := Lib.hid hbb
  replace hax := Lib.hid hax
  replace hb := Lib.hid hb
  replace hne := Lib.hid hne
  replace ho0 := Lib.hid ho0
  replace hkp := Lib.hid hkp
  replace hs1 := Lib.hid hs1
  go_wp2_with (at_builtin; go_loud (refine wpList_append_at (k := 1) (enc := byteC) rfl _ _ 22 rfl W.heap.size 5 i5 _ 1 Tryd.underlying22 hi hz0 hz1 hz2 rfl (by decide) byteC_len byteC_one (.slice a1 L1.length c1) L1 rfl hown a c l rfl hs1.out hc n1 n2 n3 ?_; intro v1 w2 hown1 hgr1 hat1; have hb1 := hb.out.grown hgr1 (fun e => (hne.out _ e.symm).2 rfl); have hg1 : Gr W w2 := g.grown hgr1 (own_block hown); rw [← hL2.out] at hown1; obtain ⟨a2, c2, hv1, ho1⟩ := Own.of hown1 hg1; subst hv1; have c3 := hb1.cell (i := 0) (v := .slice a1 L1.length c1) rfl; have f1 := hb1.free 0; have z1 := hb1.lt; have hput := WrK.put (wr := w1) (N := w1.heap.size) hwb hwB hBw hb1 (fun v => rfl) ho1 hat1 h0r hax.out hgr1 (Gr.refl w1) hkp.out h0r; replace hput := Lib.hid hput; replace ho1 := Lib.hid ho1; replace hb1 := Lib.hid hb1; clear hown1 hat1))
  go_end0
  exact ⟨rfl, hput.out.at⟩


theorem Own.older {W W1 w : World} {a : Option Addr} {c : Nat} {l : List UInt8} (h : Own W1 w a c l) (g : Gr W W1) : Own W w a c l := by
  obtain ⟨h1, h2, h3, h4, h5⟩ := h
  refine ⟨⟨h1.1, ?_⟩, h2, h3, fun x hx => Nat.le_trans g.size (h4 x hx), g.trans h5⟩
  rcases h1.2 with hn | ⟨b, cap, cur, e1, e2, e3⟩
  · exact .inl hn
  · exact .inr ⟨b, cap, cur, e1, Nat.le_trans g.size e2, e3⟩

set_option maxRecDepth 100000 in
set_option maxHeartbeats 1600000 in
theorem cloneB_any (w : World) (a : Option Addr) (c : Nat) (l : List UInt8) (h : BytesAt w a l) (hc : a = none → c = 0) (hm : l.length ≤ 1000000) :
    Calls Tryd.prog 55 #[.slice a l.length c] w fun e w' => ∃ a' c', e = .returned (.slice a' l.length c') ∧ Own w w' a' c' l := by
  obtain ⟨i5, hi, hz0, hz1, hz2⟩ := info_parts Tryd.infoU8
  have hmm : l.length ≤ maxLen := by unfold maxLen; omega
  have n2 : l.length * 1 ≤ 140737488355328 := by omega
  have hnil := fun (w : World) a n c => Lib.run_eql_slice_nil (P := Tryd.prog) w 22 5 a n c 0 0 Tryd.underlying22
  cases a with
  | none =>
    obtain rfl := hc rfl
    obtain rfl : l = [] := by
      cases l with
      | nil => rfl
      | cons y r => obtain ⟨b, off, hh, _⟩ := h 0 y rfl; cases hh
    go_enter Tryd.func55, Tryd.ntmps55
    go_wp2_with fail
    go_ret
    exact ⟨none, 0, rfl, Own.nil w w (Gr.refl w)⟩
  | some ad =>
    replace h := Lib.hid h
    go_enter Tryd.func55, Tryd.ntmps55
    go_wp2_with (at_builtin; go_loud (refine wpList_copyN (k := 1) (enc := byteC) rfl _ _ 22 rfl 5 i5 _ 1 Tryd.underlying22 hi hz0 hz1 hz2 rfl (by decide) byteC_len byteC_one w.heap.size rfl rfl (some ad) c l rfl h.out hc hmm n2 ?_; intro v1 w1 hown g1))
    obtain ⟨a', c', rfl, ho⟩ := Own.of hown g1
    go_wp2_with fail
    go_ret
    exact ⟨a', c', rfl, ho⟩

set_option maxRecDepth 100000 in
set_option maxHeartbeats 1600000 in
theorem done_any (W w : World) (wb B : Nat) (L : List UInt8) (h : WrAt W w wb B L) (hm : L.length ≤ 1000000) :
    Calls Tryd.prog 49 #[.pointer (some ⟨wb, 0, none⟩)] w fun e w' => ∃ a c, e = .returned (.tuple #[.slice a L.length c, .nilIface]) ∧ Own w w' a c L := by
  obtain ⟨a, c, hb, ho, hwb, hwB, hax, _⟩ := h
  have c0 := hb.cell (i := 0) (v := .slice a L.length c) rfl
  have c1 := hb.cell (i := 1) (v := .bool false) rfl
  have hcl := cloneB_any w a c L ho.2.1 ho.2.2.1 hm
  replace hcl := Lib.hid hcl
  replace ho := Lib.hid ho
  replace hb := Lib.hid hb
  go_enter Tryd.func49, Tryd.ntmps49
  go_wp2_with fail
  refine hcl.out.mono ?_
  rintro e w1 ⟨a1, c1, rfl, h1⟩
  replace h1 := Lib.hid h1
  go_wp2_with fail
  go_ret2
  exact ⟨a1, c1, rfl, h1.out⟩

set_option maxRecDepth 100000 in
set_option maxHeartbeats 1600000 in
theorem framed_any (W w : World) (wb B : Nat) (L : List UInt8) (h : WrAt W w wb B L) (hm : L.length ≤ 32768) :
    Calls Tryd.prog 29 #[.pointer (some ⟨wb, 0, none⟩)] w fun e w' => ∃ a c, e = .returned (.tuple #[.slice a (frameB L).length c, .nilIface]) ∧ Own w w' a c (frameB L) := by
  have hd := done_any W w wb B L h (by omega)
  have hf := fun w1 a c (ho : Own w w1 a c L) => frame_any w1 a c L ho.2.1 ho.2.2.1 hm
  replace hd := Lib.hid hd
  replace hf := Lib.hid hf
  replace h := Lib.hid h
  go_enter Tryd.func29, Tryd.ntmps29
  go_wp2_with fail
  refine hd.out.mono ?_
  rintro e w1 ⟨a1, c1, rfl, h1⟩
  have h1 := Lib.hid h1
  go_wp2_with fail
  refine (hf.out w1 a1 c1 h1.out).mono ?_
  rintro e w2 ⟨a2, c2, rfl, h2⟩
  have h2 := Lib.hid h2
  go_wp2_with fail
  go_ret2
  exact ⟨a2, c2, rfl, h2.out.older h1.out.2.2.2.2⟩
end Go.Proofs.YtlgbnjaoadlolaaDoor
