/- almonernum: Bytes, Kept, Apart. almonernum: Kept, Apart. -/
import Derived.Test.YtlgbnjaoadlolaaDoorP26
import Derived.Test.YtlgbnjaoadlolaaDoorP15
namespace Go.Proofs.YtlgbnjaoadlolaaDoor
open Go.RowKit

/-- The marked room behind a copy. -/
def marks : List UInt8 := [201, 202, 203, 204, 205, 206]
theorem own_make (w : World) (n : Nat) (hn : n ≤ 140737488355328) : ∃ w', (Instr.makeSlice 22 (.int .i64 0) (.int .i64 (n : Int))).run Tryd.prog w = .ok (.slice (some ⟨w.heap.size, 0, none⟩) 0 n) w' ∧ Own w w' (some ⟨w.heap.size, 0, none⟩) n [] := by
  obtain ⟨i5, hi, hz0, hz1, hz2⟩ := info_parts Tryd.infoU8
  obtain ⟨w', hr, ho, hg⟩ := run_make_own (P := Tryd.prog) w w.heap.size 22 5 i5 _ 1 Tryd.underlying22 hi hz0 hz1 .i64 .i64 n (by rw [hz2]; omega) (by unfold maxLen; omega) (Nat.le_refl _)
  refine ⟨w', hr, ?_⟩
  obtain ⟨a, c, hv, hO⟩ := Own.of (l := []) (by simpa using ho) ((Gr.refl w).grown hg (fun k h => by cases h))
  cases hv
  exact hO
theorem marks_at {w : World} {n : Nat} (hn : w.heap.size = n) : BytesAt (w.alloc (.cells #[.int .u8 201, .int .u8 202, .int .u8 203, .int .u8 204, .int .u8 205, .int .u8 206] 5)) (some ⟨n, 0, none⟩) marks := recs_alloc1 byteC_len w hn _ _ _ rfl
set_option maxRecDepth 100000 in
set_option maxHeartbeats 1600000 in
theorem nBytes_any (w : World) (a : Option Addr) (c : Nat) (l : List UInt8) (h : BytesAt w a l) (hc : a = none → c = 0) (hl : l.length ≤ 140737488351232) :
    Calls Tryd.prog 8 #[.slice a l.length c] w fun e w' => ∃ g c', e = .returned (.slice (some ⟨g, 0, none⟩) l.length c') ∧ Own w w' (some ⟨g, 0, none⟩) c' (l ++ marks) ∧ l.length + 6 ≤ c' := by
  obtain ⟨n, hn⟩ : ∃ n, l.length = n := ⟨_, rfl⟩
  rw [hn]
  have hn2 : n ≤ 140737488351232 := by omega
  obtain ⟨w1, hmk, hO1⟩ := own_make w (n + 6) (by omega)
  rw [show ((n + 6 : Nat) : Int) = (n : Int) + 6 by omega] at hmk
  have hb1 := h.gr hO1.2.2.2.2
  obtain ⟨L, hL⟩ : ∃ L, L = l ++ marks := ⟨_, rfl⟩
  have hLl : L.length = n + 6 := by rw [hL, List.length_append, hn]; rfl
  rw [← hL]
  have hne : L ≠ [] := by intro e; rw [e] at hLl; simp at hLl
  replace hne := Lib.hid hne
  have hln := hn
  replace hn := Lib.hid hn
  replace hO1 := Lib.hid hO1
  replace hb1 := Lib.hid hb1
  replace hL := Lib.hid hL
  replace hLl := Lib.hid hLl
  replace h := Lib.hid h
  subst hln
  go_enter Tryd.func8, Tryd.ntmps8
  go_wp2_with (at_builtin; first | (refine wpList_app (W := w) rfl _ _ rfl (some ⟨w.heap.size, 0, none⟩) (l.length + 6) [] rfl hO1.out a c l rfl hb1.out hc (by simp; omega) ?_; intro a2 c2 w2 hO2 hg2; rw [List.nil_append] at hO2 ⊢; clear hg2; have hO3 := hO2.gr ((Gr.refl w2).alloc (.cells #[.int .u8 201, .int .u8 202, .int .u8 203, .int .u8 204, .int .u8 205, .int .u8 206] 5)); have hm3 := marks_at (w := w2) rfl; replace hO2 := Lib.hid hO2; replace hO3 := Lib.hid hO3; replace hm3 := Lib.hid hm3) | go_loud (refine wpList_app (W := w) rfl _ _ rfl a2 c2 l rfl hO3.out (some ⟨w2.heap.size, 0, none⟩) 6 marks rfl hm3.out (fun h => by cases h) (by show l.length + 6 ≤ _; omega) ?_; intro a4 c4 w4 hO4 hg4; clear hg4; rw [← hL.out] at hO4 ⊢; rw [hLl.out]; have hbk4 := Own.block hO4 hne.out; obtain ⟨g4, e4, hz3, hz4, hf4, hcap4⟩ := hbk4; subst e4; rw [hLl.out] at hcap4; replace hO4 := Lib.hid hO4))
  go_ret
  exact ⟨g4, c4, rfl, hO4.out, hcap4⟩


theorem byteC_map (l : List UInt8) : l.flatMap byteC = l.map fun d => Value.int .u8 (d.toNat : Int) := by
  induction l with
  | nil => rfl
  | cons x r ih => rw [List.flatMap_cons, ih]; rfl
/-- An own row, one byte of which is written. -/
theorem Own.put1 {W w : World} {g c : Nat} {l : List UInt8} (h : Own W w (some ⟨g, 0, none⟩) c l) {i : Nat} (hi : i < l.length) (d : UInt8) : Own W (w.setCell ⟨g, i, none⟩ (.int .u8 (d.toNat : Int))) (some ⟨g, 0, none⟩) c (l.set i d) := by
  obtain ⟨ho, hb, hn, hg, gr⟩ := h
  refine ⟨?_, hb.set1 d hi, hn, hg, gr.setCell (p := ⟨g, i, none⟩) (hg ⟨g, 0, none⟩ rfl) _⟩
  rcases ho.2 with hz | ⟨g', cap, cur, hv, hg', hh, hcap, hmax, hsz, htk⟩
  · cases hz.1
  · cases hv
    refine ⟨by simp [byteC_map], .inr ⟨g, c, cur.setIfInBounds i (.int .u8 (d.toNat : Int)), by rw [List.length_set], hg', heap_setCell_same w g i cur _ _ hh, by rw [List.length_set]; exact hcap, hmax, by rw [Array.size_setIfInBounds]; exact hsz, ?_⟩⟩
    rw [byteC_map, List.map_set, ← byteC_map, ← htk, Array.toList_setIfInBounds, List.take_set, List.length_set]
set_option maxRecDepth 100000 in
set_option maxHeartbeats 1600000 in
theorem kept_yes (w : World) (g c : Nat) (l : List UInt8) (a2 : Option Addr) (c2 : Nat) (h : BytesAt w (some ⟨g, 0, none⟩) (l ++ marks)) (hc : l.length + 6 ≤ c) (hc3 : c ≤ maxLen) (h2 : BytesAt w a2 l) (hl : l.length ≤ 140737488351232) :
    Calls Tryd.prog 10 #[.slice (some ⟨g, 0, none⟩) l.length c, .slice a2 l.length c2] w fun e w' => e = .returned (.bool true) ∧ Gr w w' := by
  have hb : BytesAt w (some ⟨g, 0, none⟩) l := by
    have := h.take l.length
    rwa [List.take_left] at this
  have q1 : ∀ x : GrW w, (convert 22 9 (.slice (some ⟨g, 0, none⟩) l.length c)).run Tryd.prog x.to = .ok (strB l) x.to := fun x => conv_any c (hb.gr x.gr)
  have q2 : ∀ x : GrW w, (convert 22 9 (.slice a2 l.length c2)).run Tryd.prog x.to = .ok (strB l) x.to := fun x => conv_any c2 (h2.gr x.gr)
  have hlt : ¬ (c : Int) < (l.length : Int) + 6 := by omega
  have hlc : (l.length : Int) ≤ c := by omega
  have hlc2 : l.length ≤ c := by omega
  unfold maxLen at hc3
  replace h := Lib.hid h
  replace hb := Lib.hid hb
  replace h2 := Lib.hid h2
  go_enter Tryd.func10, Tryd.ntmps10
  go_upto_region 2 with fail
  refine wp_region_grows (by kernel_rfl) (by kernel_rfl) ?_
  repeat (any_goals (first | go_big_quiet_step (first | fail) | quiet_step (first | fail)))
  refine wpQuiet_nil ?_
  intro wz hwq
  have gz := GrW.of hwq
  clear hwq
  obtain ⟨cz, fz, sz⟩ := gz.cells
  try simp only [size_drewN] at cz fz sz
  try simp only [World.size_alloc] at cz fz sz
  try simp only [World.size_drew] at cz fz sz
  try simp only [World.size_setCell] at cz fz sz
  clear cz fz
  go_wp2_with fail
  go_loop [6] (fun kv => ∃ k : Nat, k ≤ 6 ∧ kv = .int .i64 k) (fun kv => 6 - (intOf kv).toNat)
  case atStart => exact ⟨0, by omega, rfl⟩
  case round =>
    obtain ⟨k, hk, rfl⟩ := hrel
    by_cases hlt6 : k < 6
    · have hlt2 : (k : Int) < 6 := by omega
      obtain ⟨d, hd, hdv⟩ : ∃ d, marks[k]? = some d ∧ d.toNat = 201 + k := by
        match k, hlt6 with
        | 0, _ => exact ⟨201, rfl, rfl⟩
        | 1, _ => exact ⟨202, rfl, rfl⟩
        | 2, _ => exact ⟨203, rfl, rfl⟩
        | 3, _ => exact ⟨204, rfl, rfl⟩
        | 4, _ => exact ⟨205, rfl, rfl⟩
        | 5, _ => exact ⟨206, rfl, rfl⟩
      have hg2 : (l ++ marks)[l.length + k]? = some d := by rw [List.getElem?_append_right (by omega), Nat.add_sub_cancel_left]; exact hd
      have hcell := ((h.out.gr gz).at' hg2).2
      rw [Nat.zero_add, hdv, show ((201 + k : Nat) : Int) = 201 + (k : Int) by omega] at hcell
      have h8 : (201 + (k : Int)) % 256 = 201 + (k : Int) := by omega
      have hix : (l.length : Int) + k < c := by omega
      have hix2 : l.length + k < c := by omega
      clear hd hg2 hdv
      go_wp2_with fail
      go_round
      case rel => exact ⟨k + 1, by omega, by go_num⟩
      case measure => simp [intOf]; omega
    · have hk6b : decide ((k : Int) < 6) = false := decide_eq_false (by omega)
      go_wp2_with fail
      go_ret
      exact ⟨rfl, gz⟩
/-- append(own, src...) of bytes, and where the row lies then. -/
theorem wpList_app2 {W w : World} {ops : Array Oper} {rest : List Oper} {o : Oper} {a : Act} {Q : Exit → Act → World → Prop} (hgd : o.guard = none) (s x : Operand)
    (ho : o.op = .call { callee := .builtin .append, args := #[s, x], argTypes := #[22, 22] }) (a1 : Option Addr) (c1 n1 : Nat) (L1 : List UInt8) (hs : a.eval s = .slice a1 n1 c1) (hn : L1.length = n1) (hO : Own W w a1 c1 L1)
    (sa : Option Addr) (c : Nat) (l : List UInt8) (hx : a.eval x = .slice sa l.length c) (hl : BytesAt w sa l) (hc : sa = none → c = 0) (hb : n1 + l.length ≤ 1000000)
    (h : ∀ a' c' w', Own W w' a' c' (L1 ++ l) → w.grownBy w' (Value.slice a1 n1 c1).ownBlock → (∀ y, a' = some y → (∃ z, a1 = some z ∧ y.block = z.block) ∨ y.block = w.heap.size) → wpList Tryd.prog ops Q rest (a.put o.dst (.slice a' (L1 ++ l).length c')) w') : wpList Tryd.prog ops Q (o :: rest) a w := by
  subst hn
  obtain ⟨i5, hi, hz0, hz1, hz2⟩ := info_parts Tryd.infoU8
  obtain ⟨ow, br, bn, bb, g⟩ := hO
  refine wpList_append_at (k := 1) (enc := byteC) hgd s x 22 ho W.heap.size 5 i5 _ 1 Tryd.underlying22 hi hz0 hz1 hz2 rfl (by decide) byteC_len byteC_one (.slice a1 L1.length c1) L1 hs ow sa c l hx hl hc (by unfold maxLen; omega) (by omega) g.size ?_
  intro v2 w2 hown2 hgr2 hat
  have g2 : Gr W w2 := g.grown hgr2 (own_block ow)
  obtain ⟨a2, c2, hv2, ho2⟩ := Own.of hown2 g2
  subst hv2
  refine h a2 c2 w2 ho2 hgr2 fun y hy => ?_
  subst hy
  rcases hat with h1 | h1
  · cases a1 with
    | none => cases h1
    | some z => exact .inl ⟨z, rfl, Option.some.inj h1⟩
  · exact .inr (Option.some.inj h1)
theorem GrX.grown {S : List Nat} {w a w' : World} {row : Option Nat} (h : GrX S w a) (hg : a.grownBy w' row) (hr : ∀ k, row = some k → k ∈ S ∨ w.heap.size ≤ k) : GrX S w w' := by
  obtain ⟨g1, g2, g3, g4, g5⟩ := hg
  refine ⟨g1.trans h.os, g2.trans h.tape, g3.trans h.output, Nat.le_trans h.size g4, fun k hk hn => ?_⟩
  rw [g5 k (Nat.lt_of_lt_of_le hk h.size) (fun e => by rcases hr k e.symm with h1 | h1; exact hn h1; omega)]
  exact h.block k hk hn
theorem xor85 (d : UInt8) : ∃ x : UInt8, bits .xor .u8 (d.toNat : Int) 85 = (x.toNat : Int) := by
  have hx : d.toNat ^^^ 85 < 2 ^ 8 := Nat.xor_lt_two_pow d.toNat_lt (by decide)
  refine ⟨UInt8.ofNat (d.toNat ^^^ 85), ?_⟩
  rw [show (UInt8.ofNat (d.toNat ^^^ 85)).toNat = d.toNat ^^^ 85 by rw [UInt8.toNat_ofNat']; exact Nat.mod_eq_of_lt hx]
  exact xor_u8 d.toNat_lt (by decide)
abbrev sevens : List UInt8 := [7, 7, 7, 7, 7, 7, 7, 7]
theorem sevens_at {w : World} {n : Nat} (hn : w.heap.size = n) : BytesAt (w.alloc (.cells #[.int .u8 7, .int .u8 7, .int .u8 7, .int .u8 7, .int .u8 7, .int .u8 7, .int .u8 7, .int .u8 7] 5)) (some ⟨n, 0, none⟩) sevens := recs_alloc1 byteC_len w hn _ _ _ rfl
set_option maxRecDepth 100000 in
set_option maxHeartbeats 3200000 in
theorem apart_yes (W w : World) (a : Option Addr) (c : Nat) (la : List UInt8) (hA : BytesAt w a la) (b : Option Addr) (cb : Nat) (lb : List UInt8) (hB : Own W w b cb lb) (hne : ∀ x y, a = some x → b = some y → x.block ≠ y.block) (hlb : lb.length ≤ 20000) (S : List Nat) (hS : ∀ y, b = some y → y.block ∈ S) :
    Calls Tryd.prog 16 #[.slice a la.length c, .slice b lb.length cb] w fun e w' => e = .returned (.bool true) ∧ Gr W w' ∧ GrX S w w' := by
  have q0 := conv_any c hA
  obtain ⟨n, hn⟩ : ∃ n, lb.length = n := ⟨_, rfl⟩
  have hn2 : n ≤ 20000 := by omega
  rw [hn]
  replace hA := Lib.hid hA
  replace hB := Lib.hid hB
  replace hn := Lib.hid hn
  replace hne := Lib.hid hne
  replace hS := Lib.hid hS
  go_enter Tryd.func16, Tryd.ntmps16
  go_wp2_with fail
  go_loopw [13] (fun kv wr => ∃ (k : Nat) (l : List UInt8), k ≤ n ∧ kv = .int .i64 k ∧ Hid (l.length = n) ∧ Hid (Own W wr b cb l) ∧ Hid (BytesAt wr a la) ∧ GrX S w wr) (fun kv _ => n - (intOf kv).toNat)
  case atStart => exact ⟨0, lb, by omega, rfl, hn, hB, hA, GrX.refl _ _⟩
  case round =>
    obtain ⟨k, l, hk, rfl, hl, hO, hb, gx⟩ := hrel
    by_cases hlt : k < n
    · have hlt2 : (k : Int) < n := by omega
      have hO0 := hO.out
      obtain ⟨g, hg, -, -, hfr, -⟩ := hO0.block (by intro e; have := hl.out; rw [e] at this; simp at this; omega)
      subst hg
      obtain ⟨d, hd⟩ := get_some l k (by rw [hl.out]; exact hlt)
      have hcell := (hO0.2.1.at' hd).2
      rw [Nat.zero_add] at hcell
      obtain ⟨x, hx⟩ := xor85 d
      have hO1 := hO0.put1 (i := k) (by rw [hl.out]; exact hlt) x
      have hb1 : BytesAt (wr.setCell ⟨g, k, none⟩ (.int .u8 (x.toNat : Int))) a la := hb.out.set (p := ⟨g, k, none⟩) (fun y hy => hne.out y ⟨g, 0, none⟩ hy rfl) _
      have hl1 : (l.set k x).length = n := by rw [List.length_set]; exact hl.out
      replace hO1 := Lib.hid hO1
      replace hb1 := Lib.hid hb1
      replace hl1 := Lib.hid hl1
      replace hd := Lib.hid hd
      clear hO0
      go_wp2_with fail
      go_roundw
      case rel => exact ⟨k + 1, l.set k x, by omega, by go_num, hl1, hO1, hb1, gx.set (p := ⟨g, k, none⟩) (.inl (hS.out ⟨g, 0, none⟩ rfl)) _⟩
      case measure => simp [intOf]; omega
    · have hkn : k = n := by omega
      have hknb : decide ((k : Int) < n) = false := decide_eq_false (by omega)
      have q1 := conv_any c hb.out
      have q2 := fun o => conv_any c (hb.out.gr ((Gr.refl wr).alloc o))
      have hO1 := hO.out.gr ((Gr.refl wr).alloc (.cells #[.int .u8 7, .int .u8 7, .int .u8 7, .int .u8 7, .int .u8 7, .int .u8 7, .int .u8 7, .int .u8 7] 5))
      have hs1 := sevens_at (w := wr) rfl
      obtain ⟨L2, hL2⟩ : ∃ L2, L2 = l ++ sevens := ⟨_, rfl⟩
      have hL2l : L2.length = n + 8 := by rw [hL2, List.length_append, hl.out]; rfl
      replace hkn := Lib.hid hkn
      replace hO1 := Lib.hid hO1
      replace hs1 := Lib.hid hs1
      replace hL2 := Lib.hid hL2
      replace hL2l := Lib.hid hL2l
      have hb0 := hb.out.gr ((Gr.refl wr).alloc (.cells #[.int .u8 7, .int .u8 7, .int .u8 7, .int .u8 7, .int .u8 7, .int .u8 7, .int .u8 7, .int .u8 7] 5))
      have hne1 : ∀ x, a = some x → la ≠ [] → (Value.slice b n cb).ownBlock ≠ some x.block := fun x hx _ => by
        cases b with
        | none => intro e; cases e
        | some y => intro e; exact hne.out x y hx rfl (Option.some.inj e).symm
      have hlt1 : ∀ x, a = some x → la ≠ [] → x.block < wr.heap.size := fun x hx hl => RecsAt.lt hb.out hx hl
      have gx0 := gx.alloc (.cells #[.int .u8 7, .int .u8 7, .int .u8 7, .int .u8 7, .int .u8 7, .int .u8 7, .int .u8 7, .int .u8 7] 5)
      have hrow : ∀ k, (Value.slice b n cb).ownBlock = some k → k ∈ S ∨ w.heap.size ≤ k := fun k hk => by
        cases b with
        | none => cases hk
        | some y => cases hk; exact .inl (hS.out y rfl)
      replace gx0 := Lib.hid gx0
      replace hrow := Lib.hid hrow
      replace hb0 := Lib.hid hb0
      replace hne1 := Lib.hid hne1
      replace hlt1 := Lib.hid hlt1
      go_wp2_with (at_builtin; go_loud (refine wpList_app2 (W := W) rfl _ _ rfl b cb n l rfl hl.out hO1.out (some ⟨wr.heap.size, 0, none⟩) 8 sevens rfl hs1.out (fun h => by cases h) (by simp; omega) ?_; intro a2 c2 w2 hO2 hg2 hat2; have hb2 := BytesAt.grown hb0.out hg2 hne1.out; have gx2 := GrX.grown gx0.out hg2 hrow.out; rw [← hL2.out] at hO2 ⊢; rw [hL2l.out]; replace hO2 := Lib.hid hO2; replace hb2 := Lib.hid hb2; replace hat2 := Lib.hid hat2; clear hg2))
      have hne2 : ∀ x y, a = some x → a2 = some y → la ≠ [] → x.block ≠ y.block := fun x y hx hy hl => by
        rcases hat2.out y hy with ⟨z, hz, he⟩ | he
        · rw [he]; exact hne.out x z hx hz
        · rw [he, World.size_alloc]; have := hlt1.out x hx hl; omega
      have hsz0 := gx.size
      have hg3 : ∀ y, a2 = some y → y.block ∈ S ∨ w.heap.size ≤ y.block := fun y hy => by
        rcases hat2.out y hy with ⟨z, hz, he⟩ | he
        · rw [he]; exact .inl (hS.out z hz)
        · rw [he, World.size_alloc]; right; omega
      replace hg3 := Lib.hid hg3
      replace hne2 := Lib.hid hne2
      clear gx
      clear q1 q2
      go_loopw [8] (fun kv wr => ∃ (k : Nat) (l : List UInt8), k ≤ n + 8 ∧ kv = .int .i64 k ∧ Hid (l.length = n + 8) ∧ Hid (Own W wr a2 c2 l) ∧ Hid (BytesAt wr a la) ∧ GrX S w wr) (fun kv _ => n + 8 - (intOf kv).toNat)
      case atStart => exact ⟨n, L2, by omega, rfl, hL2l, hO2, hb2, gx2⟩
      case round =>
        obtain ⟨k, l, hk, rfl, hl, hO, hb, gx⟩ := hrel
        by_cases hlt : k < n + 8
        · have hlt2 : (k : Int) < (n : Int) + 8 := by omega
          have hO0 := hO.out
          obtain ⟨g, hg, -, -, hfr, -⟩ := hO0.block (by intro e; have := hl.out; rw [e] at this; simp at this)
          subst hg
          obtain ⟨d, hd⟩ := get_some l k (by rw [hl.out]; exact hlt)
          have hcell := (hO0.2.1.at' hd).2
          rw [Nat.zero_add] at hcell
          obtain ⟨x, hx⟩ := xor85 d
          have hO1 := hO0.put1 (i := k) (by rw [hl.out]; exact hlt) x
          have hb1 : BytesAt (wr.setCell ⟨g, k, none⟩ (.int .u8 (x.toNat : Int))) a la := by
            by_cases hla : la = []
            · subst hla; exact fun i s hi => by simp at hi
            · exact hb.out.set (p := ⟨g, k, none⟩) (fun y hy => hne2.out y ⟨g, 0, none⟩ hy rfl hla) _
          have hl1 : (l.set k x).length = n + 8 := by rw [List.length_set]; exact hl.out
          replace hO1 := Lib.hid hO1
          replace hb1 := Lib.hid hb1
          replace hl1 := Lib.hid hl1
          replace hd := Lib.hid hd
          clear hO0
          go_wp2_with fail
          go_roundw
          case rel => exact ⟨k + 1, l.set k x, by omega, by go_num, hl1, hO1, hb1, gx.set (p := ⟨g, k, none⟩) (hg3.out ⟨g, 0, none⟩ rfl) _⟩
          case measure => simp [intOf]; omega
        · have hkn2 : k = n + 8 := by omega
          have hknb2 : decide ((k : Int) < (n : Int) + 8) = false := decide_eq_false (by omega)
          have q3 := conv_any c hb.out
          have gr := hO.out.2.2.2.2
          replace hkn2 := Lib.hid hkn2
          go_wp2_with fail
          go_ret
          exact ⟨rfl, gr, gx⟩
end Go.Proofs.YtlgbnjaoadlolaaDoor
