/- What order.Get needs: numbers in two parts, tasks appended. order.Get of what is in form. Printed by gen_p33.py. -/
import Derived.Test.YtlgbnjaoadlolaaDoorP22
import Derived.Test.YtlgbnjaoadlolaaDoorP15
import Derived.Test.YtlgbnjaoadlolaaDoorP7
import Derived.Test.YtlgbnjaoadlolaaDoorP28
namespace Go.Proofs.YtlgbnjaoadlolaaDoor
open Go.RowKit

theorem numsR_add : ∀ (a b : Nat) (l : List UInt8), numsR (a + b) l = (numsR a l).bind fun x => (numsR b (l.drop x.2)).map fun r => (x.1 ++ r.1, x.2 + r.2)
  | 0, b, l => by
    rw [Nat.zero_add]
    show _ = (numsR b (l.drop 0)).map _
    rw [List.drop_zero]
    cases numsR b l with
    | none => rfl
    | some q => show some q = some (_, _); rw [Nat.zero_add]; rfl
  | a + 1, b, l => by
    rw [show a + 1 + b = (a + b) + 1 by omega, numsR_succ, numsR_succ]
    cases numR l with
    | none => rfl
    | some q =>
      dsimp only
      by_cases hq : q.1 ≤ 1099511627776
      · rw [if_pos hq, if_pos hq, numsR_add a b (l.drop q.2)]
        cases hx : numsR a (l.drop q.2) with
        | none => rfl
        | some x =>
          show ((numsR b ((l.drop q.2).drop x.2)).map _).map _ = (numsR b (l.drop (q.2 + x.2))).map _
          rw [List.drop_drop, Option.map_map]
          congr 1
          funext r
          show (_, _) = (_, _)
          rw [Nat.add_assoc]
          rfl
      · rw [if_neg hq, if_neg hq]; rfl
theorem idx_ptr {t : TypeId} {n : Nat} {cs : Array Value} {k : Nat} {a : Addr} (w : World) (h : Tryd.prog.underlying t = some (.array n 71)) (hk : k < n) (hv : cs[k]? = some (.pointer (some a))) : (Instr.index t (.agg cs) (.int .i64 k)).run Tryd.prog w = .ok (.pointer (some a)) w := by
  have h1 : (0 : Int) ≤ (k : Int) ∧ (k : Int) < (n : Int) := by omega
  simp [Instr.index, run_underlying h, asIntOf, h1, hv, go_sem]
  omega
/-- append(own, src...) of tasks: whatever the world is. -/
theorem wpList_appT {B : Nat} {w : World} {ops : Array Oper} {rest : List Oper} {o : Oper} {a : Act} {Q : Exit → Act → World → Prop} (hgd : o.guard = none) (s x : Operand)
    (ho : o.op = .call { callee := .builtin .append, args := #[s, x], argTypes := #[27, 27] }) (a1 : Option Addr) (c1 n1 : Nat) (L1 : List Tsk) (hs : a.eval s = .slice a1 n1 c1) (hn : L1.length = n1) (hO : w.ownsRow B 117 4 (.slice a1 n1 c1) L1.length (L1.flatMap Tsk.cells))
    (sa : Option Addr) (c : Nat) (l : List Tsk) (hx : a.eval x = .slice sa l.length c) (hl : RecsAt 4 Tsk.cells w sa l) (hc : sa = none → c = 0) (hb : (n1 + l.length) * 32 ≤ 140737488355328) (hB : B ≤ w.heap.size)
    (h : ∀ a' c' w', w'.ownsRow B 117 4 (.slice a' (L1 ++ l).length c') (L1 ++ l).length ((L1 ++ l).flatMap Tsk.cells) → RecsAt 4 Tsk.cells w' a' (L1 ++ l) → (a' = none → c' = 0) → (∀ y, a' = some y → B ≤ y.block) → w.grownBy w' (Value.slice a1 n1 c1).ownBlock → wpList Tryd.prog ops Q rest (a.put o.dst (.slice a' (L1 ++ l).length c')) w') : wpList Tryd.prog ops Q (o :: rest) a w := by
  subst hn
  obtain ⟨i5, hi, hz0, hz1, hz2⟩ := info_parts Tryd.infoTsk
  refine wpList_append_recs (k := 4) (enc := Tsk.cells) hgd s x 27 ho B 117 i5 _ 32 Tryd.underlying27 hi hz0 hz1 hz2 rfl (by decide) Tsk.cells_len Tsk.cells_one (.slice a1 L1.length c1) L1 hs hO sa c l hx hl hc (by unfold maxLen; omega) hb hB ?_
  intro v2 w2 hown2 hgr2
  obtain ⟨a2, c2, hv2, hr2, hn2, hB2⟩ := recs_of_owns Tsk.cells_len hown2
  subst hv2
  exact h a2 c2 w2 hown2 hr2 hn2 hB2 hgr2
theorem RdAt.grown {K : Nat → Prop} {w w' : World} {rb : Nat} {p : List UInt8} {at_ : Nat} {row : Option Nat} (h : RdAt K w rb p at_) (hg : w.grownBy w' row) (h1 : ∀ k, row = some k → k ≠ rb ∧ ¬ K k) : RdAt K w' rb p at_ := by
  obtain ⟨a, c, e1, e2, e3, e4, e5⟩ := h
  refine ⟨a, c, e1.grown hg (fun e => (h1 rb e.symm).1 rfl), e2.grown hg (fun x hx _ e => (h1 _ e).2 (e4 x hx).2), e3, e4, e5⟩
theorem owns_tmax {w : World} {B : Nat} {e : TypeId} {k : Nat} {a : Option Addr} {n c : Nat} {xs : List Value} (h : w.ownsRow B e k (.slice a n c) n xs) : n ≤ c ∧ c ≤ maxLen := by
  rcases h.2 with hn | ⟨g, cap, cur, hv, hg, hh, hn, hm, _⟩
  · cases hn.1; exact ⟨by have := hn.2; omega, Nat.zero_le _⟩
  · cases hv; exact ⟨hn, hm⟩
theorem Blk.set10 {w : World} {b : Nat} {cs : Array Value} {t : TypeId} (h : Blk w b cs t) (hs : cs.size = 10) (v0 v1 v2 v3 v4 v5 v6 v7 v8 v9 : Value) : Blk ((((((((((w.setCell ⟨b, 0, none⟩ v0).setCell ⟨b, 1, none⟩ v1).setCell ⟨b, 2, none⟩ v2).setCell ⟨b, 3, none⟩ v3).setCell ⟨b, 4, none⟩ v4).setCell ⟨b, 5, none⟩ v5).setCell ⟨b, 6, none⟩ v6).setCell ⟨b, 7, none⟩ v7).setCell ⟨b, 8, none⟩ v8).setCell ⟨b, 9, none⟩ v9) b #[v0, v1, v2, v3, v4, v5, v6, v7, v8, v9] t := by
  obtain ⟨l⟩ := cs
  match l, hs with
  | [c0, c1, c2, c3, c4, c5, c6, c7, c8, c9], _ =>
    have h := (((((((((h.set 0 v0).set 1 v1).set 2 v2).set 3 v3).set 4 v4).set 5 v5).set 6 v6).set 7 v7).set 8 v8).set 9 v9
    simpa only [List.setIfInBounds_toArray, List.set_cons_zero, List.set_cons_succ] using h
theorem GrX.set10 {S : List Nat} {w a : World} {b : Nat} (h : GrX S w a) (hb : b ∈ S) (v0 v1 v2 v3 v4 v5 v6 v7 v8 v9 : Value) : GrX S w ((((((((((a.setCell ⟨b, 0, none⟩ v0).setCell ⟨b, 1, none⟩ v1).setCell ⟨b, 2, none⟩ v2).setCell ⟨b, 3, none⟩ v3).setCell ⟨b, 4, none⟩ v4).setCell ⟨b, 5, none⟩ v5).setCell ⟨b, 6, none⟩ v6).setCell ⟨b, 7, none⟩ v7).setCell ⟨b, 8, none⟩ v8).setCell ⟨b, 9, none⟩ v9) :=
  (((((((((h.set (p := ⟨b, 0, none⟩) (.inl hb) v0).set (p := ⟨b, 1, none⟩) (.inl hb) v1).set (p := ⟨b, 2, none⟩) (.inl hb) v2).set (p := ⟨b, 3, none⟩) (.inl hb) v3).set (p := ⟨b, 4, none⟩) (.inl hb) v4).set (p := ⟨b, 5, none⟩) (.inl hb) v5).set (p := ⟨b, 6, none⟩) (.inl hb) v6).set (p := ⟨b, 7, none⟩) (.inl hb) v7).set (p := ⟨b, 8, none⟩) (.inl hb) v8).set (p := ⟨b, 9, none⟩) (.inl hb) v9
theorem ten_of {l : List Nat} (h : l.length = 10) : ∃ a0 a1 a2 a3 a4 a5 a6 a7 a8 a9, l = [a0, a1, a2, a3, a4, a5, a6, a7, a8, a9] := by
  match l, h with
  | [a0, a1, a2, a3, a4, a5, a6, a7, a8, a9], _ => exact ⟨a0, a1, a2, a3, a4, a5, a6, a7, a8, a9, rfl⟩
theorem fourN_of {l : List Nat} (h : l.length = 4) : ∃ a0 a1 a2 a3, l = [a0, a1, a2, a3] := by
  match l, h with
  | [a0, a1, a2, a3], _ => exact ⟨a0, a1, a2, a3, rfl⟩
abbrev tskNat (t : Tsk) : List Nat := [t.c.toNat, t.p.toNat, t.d.toNat, t.s.toNat]


theorem GrX.trans2 {S T : List Nat} {a b c : World} (h : GrX S a b) (g : GrX T b c) (hT : ∀ x, x ∈ T → x ∈ S ∨ a.heap.size ≤ x) : GrX S a c :=
  ⟨g.os.trans h.os, g.tape.trans h.tape, g.output.trans h.output, Nat.le_trans h.size g.size, fun k hk hn => (g.block k (Nat.lt_of_lt_of_le hk h.size) (fun hx => by rcases hT k hx with h1 | h1; exact hn h1; omega)).trans (h.block k hk hn)⟩
theorem step_tasks {L0 : List Tsk} {q m d : Nat} {t : Tsk} {l : List UInt8} (ht : L0[q]? = some t) (hqm : q < m) (h : numsR (4 * (m - q)) l = some ((L0.drop q).flatMap tskNat, d)) : ∃ s, numsR 4 l = some (tskNat t, s) ∧ numsR (4 * (m - (q + 1))) (l.drop s) = some ((L0.drop (q + 1)).flatMap tskNat, d - s) ∧ s ≤ d := by
  have hm : 4 * (m - q) = 4 + 4 * (m - (q + 1)) := by omega
  have hlt := get_lt ht
  have hd : L0.drop q = t :: L0.drop (q + 1) := by
    have he : L0[q] = t := by have := List.getElem?_eq_getElem hlt; rw [ht] at this; exact (Option.some.inj this).symm
    rw [List.drop_eq_getElem_cons hlt, he]
  rw [hm, numsR_add, hd, List.flatMap_cons] at h
  obtain ⟨x, hx, h2⟩ := Option.bind_eq_some_iff.1 h
  obtain ⟨r, hr, h3⟩ := Option.map_eq_some_iff.1 h2
  have hxl := (numsR_get 4 l x.1 x.2 hx).1
  have h4 := congrArg Prod.fst h3
  have h5 := congrArg Prod.snd h3
  dsimp only at h4 h5
  obtain ⟨h6, h7⟩ := List.append_inj h4 (by rw [hxl]; rfl)
  refine ⟨x.2, by rw [hx, ← h6], ?_, by omega⟩
  rw [hr, ← h7, show d - x.2 = r.2 by omega]
theorem ptrs4a {ab : Nat} : ∀ k, k < 4 → (#[.pointer (some ⟨ab, 0, none⟩), .pointer (some ⟨ab, 1, none⟩), .pointer (some ⟨ab, 2, none⟩), .pointer (some ⟨ab, 3, none⟩)] : Array Value)[k]? = some (.pointer (some ⟨ab, k, none⟩)) := fun k hk => by
  match k, hk with
  | 0, _ => rfl
  | 1, _ => rfl
  | 2, _ => rfl
  | 3, _ => rfl
set_option maxRecDepth 100000 in
set_option maxHeartbeats 12800000 in
theorem orderGet_yes {G : List Nat} {E : Nat → Addr} (w : World) (hE : EAt G E w) (i0 : 0 ∈ G) (a : Option Addr) (c : Nat) (p : List UInt8) (hS : BytesAt w a p) (hcn : a = none → c = 0) (hpm : p.length ≤ 40000)
    (m0 m1 m2 m3 m4 m5 m6 m7 m8 k j : Nat) (L0 : List Tsk) (hN : numsR 10 p = some ([m0, m1, m2, m3, m4, m5, m6, m7, m8, L0.length], k)) (hT : numsR (4 * L0.length) (p.drop k) = some (L0.flatMap tskNat, j)) (hl : k + j = p.length) (hf : entF (⟨m0, m1, m2, m4, ⟨m5, m6, m7⟩, m8, L0, m3⟩ : Ent) = true) :
    Calls Tryd.prog 42 #[.slice a p.length c] w fun r w' => ∃ a' c', r = .returned (.tuple #[.agg #[.int .i64 m0, .int .i64 m1, .int .i64 m2, .int .i64 m4, .int .i64 m5, .int .i64 m6, .int .i64 m7, .int .i64 m8, .slice a' L0.length c', .int .i64 m3], .nilIface]) ∧ (RecsAt 4 Tsk.cells w' a' L0 ∧ (a' = none → c' = 0) ∧ L0.length ≤ c' ∧ c' ≤ maxLen ∧ ∀ y, a' = some y → w.heap.size ≤ y.block) ∧ Gr w w' := by
  obtain ⟨ht8, htk⟩ := ent_tasks hf
  dsimp only at ht8 htk
  have hr := newReader_any (w.alloc (.cells #[.int .i64 0, .int .i64 0, .int .i64 0, .int .i64 0, .int .i64 0, .int .i64 0, .int .i64 0, .int .i64 0, .slice none 0 0, .int .i64 0] 79)) a c p (hS.gr ((Gr.refl w).alloc _)) hcn (by omega)
  obtain ⟨n, hn⟩ : ∃ n, p.length = n := ⟨_, rfl⟩
  rw [hn] at hr ⊢
  obtain ⟨m9, hm9⟩ : ∃ m9, L0.length = m9 := ⟨_, rfl⟩
  rw [hm9] at hN hT ht8
  replace hr := Lib.hid hr
  replace hn := Lib.hid hn
  replace hS := Lib.hid hS
  replace hN := Lib.hid hN
  replace hT := Lib.hid hT
  replace hm9 := Lib.hid hm9
  replace hl := Lib.hid hl
  replace hf := Lib.hid hf
  replace htk := Lib.hid htk
  go_enter Tryd.func42, Tryd.ntmps42
  go_wp2_with fail
  refine hr.out.mono ?_
  rintro r w1 ⟨rb, rfl, hr1, hr2, g1⟩
  have hR1 : Blk w1 w.heap.size #[.int .i64 0, .int .i64 0, .int .i64 0, .int .i64 0, .int .i64 0, .int .i64 0, .int .i64 0, .int .i64 0, .slice none 0 0, .int .i64 0] 79 := (Blk.new w _ _).gr g1
  have gw1 : Gr w w1 := ((Gr.refl w).alloc _).trans g1
  have z1 := gw1.size
  simp only [World.size_alloc] at hr2
  have hzR := hR1.lt
  obtain ⟨nb, hnb⟩ : ∃ nb, w1.heap.size = nb := ⟨_, rfl⟩
  rw [hnb] at z1 hr1 hzR
  have hrl : rb < nb := by obtain ⟨_, _, hh, _⟩ := hr1; have := hh.lt; omega
  obtain ⟨W2, hW2⟩ : ∃ W2, W2 = w1.alloc (.cells #[.int .i64 0, .int .i64 0, .int .i64 0, .int .i64 0, .int .i64 0, .int .i64 0, .int .i64 0, .int .i64 0, .int .i64 0, .int .i64 0] 115) := ⟨_, rfl⟩
  have g12 : Gr w1 W2 := by rw [hW2]; exact (Gr.refl w1).alloc _
  have hr2' := hr1.gr g12
  have hb2 : Blk W2 nb #[.int .i64 0, .int .i64 0, .int .i64 0, .int .i64 0, .int .i64 0, .int .i64 0, .int .i64 0, .int .i64 0, .int .i64 0, .int .i64 0] 115 := by rw [hW2]; exact Blk.new1 hnb
  have hR2 := hR1.gr g12
  have gw2 := gw1.trans g12
  have zn2 := hb2.lt
  have h0 : numsR 10 p = (numsR (10 - ([] : List Nat).length) (p.drop 0)).map fun r => ([] ++ r.1, 0 + r.2) := by
    rw [List.length_nil, Nat.sub_zero, List.drop_zero]
    cases numsR 10 p with
    | none => rfl
    | some q => show some q = some (_, _); rw [Nat.zero_add]; rfl
  replace h0 := Lib.hid h0
  replace hr1 := Lib.hid hr1
  replace hr2' := Lib.hid hr2'
  replace hb2 := Lib.hid hb2
  replace hR1 := Lib.hid hR1
  replace hR2 := Lib.hid hR2
  replace hW2 := Lib.hid hW2
  go_upto_region 4 with fail
  rw [← hW2.out]
  go_loopw [17] (fun iv wr => ∃ (i q : Nat) (ns : List Nat), iv = .int .i64 i ∧ i ≤ 10 ∧ Hid (ns.length = i) ∧ Hid (numsR 10 p = (numsR (10 - ns.length) (p.drop q)).map fun r => (ns ++ r.1, q + r.2)) ∧ RdAt (· < nb) wr rb p q ∧ Blk wr nb (over #[.int .i64 0, .int .i64 0, .int .i64 0, .int .i64 0, .int .i64 0, .int .i64 0, .int .i64 0, .int .i64 0, .int .i64 0, .int .i64 0] ns) 115 ∧ GrX [rb, nb] W2 wr) (fun iv _ => 10 - (intOf iv).toNat)
  case atStart => exact ⟨0, 0, [], rfl, Nat.zero_le _, Lib.hid rfl, h0, hr2'.out, by rw [over_nil]; exact hb2.out, GrX.refl _ _⟩
  case round =>
    obtain ⟨i, q, ns, rfl, hi10, hns, heq, hrd, hbl, hg⟩ := hrel
    by_cases hi : i < 10
    · obtain ⟨s1, s2, s3⟩ := numsR_step (by rw [hns.out]; exact hi) heq.out
      rw [hN.out] at s1 s2
      obtain ⟨v, j2, hq, hv⟩ : ∃ v j2, numR (p.drop q) = some (v, j2) ∧ v ≤ 1099511627776 := by
        cases hq : numR (p.drop q) with
        | none => have := s1 hq; cases this
        | some x =>
          by_cases hx : x.1 ≤ 1099511627776
          · exact ⟨x.1, x.2, rfl, hx⟩
          · have := s2 x.1 x.2 hq (by omega); cases this
      have s4 := s3 v j2 hq hv
      have hi2 : (i : Int) < 10 := by omega
      have hnm := rnum_yes wr rb p q 1099511627776 hrd hq (by omega)
      clear s1 s2 s3
      replace s4 := Lib.hid s4
      replace hnm := Lib.hid hnm
      replace hq := Lib.hid hq
      replace hbl := Lib.hid hbl
      replace hrd := Lib.hid hrd
      go_wp2_with fail
      refine hnm.out.mono ?_
      rintro r w3 ⟨rfl, hrd1, hg1⟩
      have hb1 := hbl.out.grx hg1 (by simp; omega)
      have hsz : i < (over #[.int .i64 0, .int .i64 0, .int .i64 0, .int .i64 0, .int .i64 0, .int .i64 0, .int .i64 0, .int .i64 0, .int .i64 0, .int .i64 0] ns).size := by rw [over_size (by rw [hns.out]; exact hi10)]; exact hi
      have cA := hb1.cell (i := i) (Array.getElem?_eq_getElem hsz)
      have fA := hb1.free i
      have hzb := hb1.lt
      have hb3 := hb1.set i (.int .i64 v)
      rw [show (over #[.int .i64 0, .int .i64 0, .int .i64 0, .int .i64 0, .int .i64 0, .int .i64 0, .int .i64 0, .int .i64 0, .int .i64 0, .int .i64 0] ns).setIfInBounds i (.int .i64 (v : Int)) = over #[.int .i64 0, .int .i64 0, .int .i64 0, .int .i64 0, .int .i64 0, .int .i64 0, .int .i64 0, .int .i64 0, .int .i64 0, .int .i64 0] (ns ++ [v]) by have := over_set (cs := #[.int .i64 0, .int .i64 0, .int .i64 0, .int .i64 0, .int .i64 0, .int .i64 0, .int .i64 0, .int .i64 0, .int .i64 0, .int .i64 0]) (ns := ns) (by rw [hns.out]; exact hi) v; rwa [hns.out] at this] at hb3
      have hr3 := hrd1.grx (S := [nb]) ((GrX.refl _ _).set (p := ⟨nb, i, none⟩) (.inl (by simp)) (.int .i64 v)) (by simp; omega) (fun b hb => by simp; omega)
      replace hb1 := Lib.hid hb1
      replace hb3 := Lib.hid hb3
      replace hr3 := Lib.hid hr3
      replace hrd1 := Lib.hid hrd1
      replace hsz := Lib.hid hsz
      go_wp2_with fail
      go_roundw
      case rel => exact ⟨i + 1, q + j2, ns ++ [v], by go_num, by omega, Lib.hid (by rw [List.length_append, hns.out]; rfl), s4, hr3.out, hb3.out, (hg.trans (hg1.mono (fun x hx => by simp at hx; simp [hx]))).set (.inl (by simp)) _⟩
      case measure => simp [intOf]; omega
    · have hie : i = 10 := by omega
      have hib : decide ((i : Int) < 10) = false := decide_eq_false (by omega)
      have hdn := numsR_done (by rw [hns.out]; exact hie) heq.out
      rw [hN.out] at hdn
      obtain ⟨rfl, rfl⟩ : ns = [m0, m1, m2, m3, m4, m5, m6, m7, m8, m9] ∧ k = q := by cases hdn; exact ⟨rfl, rfl⟩
      have hbl2 : Blk wr nb #[.int .i64 m0, .int .i64 m1, .int .i64 m2, .int .i64 m3, .int .i64 m4, .int .i64 m5, .int .i64 m6, .int .i64 m7, .int .i64 m8, .int .i64 m9] 115 := hbl
      have gwr : Gr w wr := GrX.all gw2 hg (fun x hx => by simp at hx; rcases hx with rfl | rfl <;> omega)
      have hRr := hR2.out.grx hg (by simp; omega)
      have cn0 := hbl2.cell (i := 0) (v := .int .i64 m0) rfl
      have cn1 := hbl2.cell (i := 1) (v := .int .i64 m1) rfl
      have cn2 := hbl2.cell (i := 2) (v := .int .i64 m2) rfl
      have cn3 := hbl2.cell (i := 3) (v := .int .i64 m3) rfl
      have cn4 := hbl2.cell (i := 4) (v := .int .i64 m4) rfl
      have cn5 := hbl2.cell (i := 5) (v := .int .i64 m5) rfl
      have cn6 := hbl2.cell (i := 6) (v := .int .i64 m6) rfl
      have cn7 := hbl2.cell (i := 7) (v := .int .i64 m7) rfl
      have cn8 := hbl2.cell (i := 8) (v := .int .i64 m8) rfl
      have cn9 := hbl2.cell (i := 9) (v := .int .i64 m9) rfl
      have hzb := hbl2.lt
      have hzr := hRr.lt
      replace hie := Lib.hid hie
      replace hdn := Lib.hid hdn
      replace hbl := Lib.hid hbl
      replace hbl2 := Lib.hid hbl2
      replace hRr := Lib.hid hRr
      replace hrd := Lib.hid hrd
      have h8b : ¬ (8 : Int) < m9 := by omega
      obtain ⟨eb, heb⟩ : ∃ eb, wr.heap.size = eb := ⟨_, rfl⟩
      obtain ⟨W3, hW3⟩ : ∃ W3, W3 = wr.alloc (.cells #[.int .i64 m0, .int .i64 m1, .int .i64 m2, .int .i64 m4, .int .i64 m5, .int .i64 m6, .int .i64 m7, .int .i64 m8, .slice none 0 0, .int .i64 m3] 79) := ⟨_, rfl⟩
      have g3 : Gr wr W3 := by rw [hW3]; exact (Gr.refl wr).alloc _
      have hE3 : Blk W3 eb #[.int .i64 m0, .int .i64 m1, .int .i64 m2, .int .i64 m4, .int .i64 m5, .int .i64 m6, .int .i64 m7, .int .i64 m8, .slice none 0 0, .int .i64 m3] 79 := by rw [hW3]; exact Blk.new1 heb
      have hR3 := hRr.out.gr g3
      have hr3 := hrd.out.gr g3
      have gw3 := gwr.trans g3
      have z3 : W3.heap.size = eb + 1 := by rw [hW3]; simp [heb]
      have hT0 : numsR (4 * (m9 - 0)) (p.drop (k + 0)) = some ((L0.drop 0).flatMap tskNat, j - 0) := hT.out
      have hnbeb : nb < eb := by omega
      replace hW3 := Lib.hid hW3
      replace hE3 := Lib.hid hE3
      replace hR3 := Lib.hid hR3
      replace hr3 := Lib.hid hr3
      replace hT0 := Lib.hid hT0
      replace z3 := Lib.hid z3
      go_upto_region 15 with fail
      rw [← hW3.out]
      clear cn0 cn1 cn2 cn3 cn4 cn5 cn6 cn7 cn8 cn9
      go_loopw [61] (fun iv wr => ∃ (q u : Nat) (L : List Tsk) (a1 : Option Addr) (c1 : Nat), iv = .int .i64 q ∧ q ≤ m9 ∧ Hid (L = L0.take q) ∧ Hid (wr.ownsRow W3.heap.size 117 4 (.slice a1 q c1) L.length (L.flatMap Tsk.cells)) ∧ Hid (RecsAt 4 Tsk.cells wr a1 L ∧ (a1 = none → c1 = 0) ∧ ∀ y, a1 = some y → W3.heap.size ≤ y.block) ∧ Hid (numsR (4 * (m9 - q)) (p.drop (k + u)) = some ((L0.drop q).flatMap tskNat, j - u) ∧ u ≤ j) ∧ Hid (RdAt (· < nb) wr rb p (k + u)) ∧ Hid (Blk wr eb #[.int .i64 m0, .int .i64 m1, .int .i64 m2, .int .i64 m4, .int .i64 m5, .int .i64 m6, .int .i64 m7, .int .i64 m8, .slice a1 q c1, .int .i64 m3] 79) ∧ GrX [rb, eb] W3 wr) (fun iv _ => m9 - (intOf iv).toNat)
      case atStart => exact ⟨0, 0, [], none, 0, rfl, Nat.zero_le _, Lib.hid rfl, Lib.hid (World.ownsRow_nil _ _ _ _), Lib.hid ⟨fun i s h => by simp at h, fun _ => rfl, fun y h => by cases h⟩, Lib.hid ⟨hT0.out, Nat.zero_le _⟩, hr3, hE3, GrX.refl _ _⟩
      case round =>
        obtain ⟨q, u, L, a1, c1, rfl, hqm, hL, hO, hrc, hnu, hrd, hbl, hg⟩ := hrel
        obtain ⟨wo, rfl⟩ : ∃ wo : World, wo = wr := ⟨_, rfl⟩
        have hLl : L.length = q := by rw [hL.out, List.length_take, hm9.out]; omega
        have zo := hg.size
        by_cases hq : q < m9
        · obtain ⟨t, ht⟩ := get_some L0 q (by rw [hm9.out]; exact hq)
          obtain ⟨s, hs4, hsr, hsd⟩ := step_tasks ht hq hnu.out.1
          have htn := tsk_nums (htk.out t (List.mem_of_getElem? ht))
          have hq2 : (q : Int) < m9 := by omega
          have hLn : L ++ [t] = L0.take (q + 1) := by rw [take_snoc ht, ← hL.out]
          obtain ⟨tb, htb⟩ : ∃ tb, wo.heap.size = tb := ⟨_, rfl⟩
          have hz3 := z3.out
          have hetb : eb < tb := by omega
          have hbt := (Blk.new1 htb : Blk (wo.alloc (.cells #[.int .i64 0, .int .i64 0, .int .i64 0, .int .i64 0] 117)) tb #[.int .i64 0, .int .i64 0, .int .i64 0, .int .i64 0] 117)
          have hrdt := hrd.out.gr ((Gr.refl wo).alloc (.cells #[.int .i64 0, .int .i64 0, .int .i64 0, .int .i64 0] 117))
          have h00 : numsR 4 (p.drop (k + u)) = (numsR (4 - ([] : List Nat).length) ((p.drop (k + u)).drop 0)).map fun r => ([] ++ r.1, 0 + r.2) := by
            rw [List.length_nil, Nat.sub_zero, List.drop_zero]
            cases numsR 4 (p.drop (k + u)) with
            | none => rfl
            | some q => show some q = some (_, _); rw [Nat.zero_add]; rfl
          replace h00 := Lib.hid h00
          replace hs4 := Lib.hid hs4
          replace hsr := Lib.hid hsr
          replace hLn := Lib.hid hLn
          replace hLl := Lib.hid hLl
          replace ht := Lib.hid ht
          replace htn := Lib.hid htn
          replace hbt := Lib.hid hbt
          replace hrdt := Lib.hid hrdt
          replace hz3 := Lib.hid hz3
          go_upto_region 18 with fail
          go_loopw [68] (fun iv wr => ∃ (i v : Nat) (ns : List Nat), iv = .int .i64 i ∧ i ≤ 4 ∧ Hid (ns.length = i) ∧ Hid (numsR 4 (p.drop (k + u)) = (numsR (4 - ns.length) ((p.drop (k + u)).drop v)).map fun r => (ns ++ r.1, v + r.2)) ∧ Hid (RdAt (· < nb) wr rb p (k + u + v)) ∧ Hid (Blk wr tb (over #[.int .i64 0, .int .i64 0, .int .i64 0, .int .i64 0] ns) 117) ∧ GrX [rb, tb] (wo.alloc (.cells #[.int .i64 0, .int .i64 0, .int .i64 0, .int .i64 0] 117)) wr) (fun iv _ => 4 - (intOf iv).toNat)
          case atStart => exact ⟨0, 0, [], rfl, Nat.zero_le _, Lib.hid rfl, h00, hrdt, Lib.hid (by rw [over_nil]; exact hbt.out), GrX.refl _ _⟩
          case round =>
            obtain ⟨i, v, ns, rfl, hi4, hns, heq, hrd4, hbl4, hg4⟩ := hrel
            by_cases hi : i < 4
            · obtain ⟨s1, s2, s3⟩ := numsR_step (by rw [hns.out]; exact hi) heq.out
              rw [List.drop_drop, hs4.out] at s1 s2
              rw [List.drop_drop] at s3
              obtain ⟨x, j2, hqr, hv⟩ : ∃ x j2, numR (p.drop (k + u + v)) = some (x, j2) ∧ x ≤ 1099511627776 := by
                cases hqr : numR (p.drop (k + u + v)) with
                | none => have := s1 hqr; cases this
                | some x =>
                  by_cases hx : x.1 ≤ 1099511627776
                  · exact ⟨x.1, x.2, rfl, hx⟩
                  · have := s2 x.1 x.2 hqr (by omega); cases this
              have s5 := s3 x j2 hqr hv
              have hi2 : (i : Int) < 4 := by omega
              have hnm := rnum_yes wr rb p (k + u + v) 1099511627776 hrd4.out hqr (by omega)
              have hix := fun w => idx_ptr (cs := #[.pointer (some ⟨tb, 0, none⟩), .pointer (some ⟨tb, 1, none⟩), .pointer (some ⟨tb, 2, none⟩), .pointer (some ⟨tb, 3, none⟩)]) w Tryd.underlying119 hi (ptrs4a i hi)
              clear s1 s2 s3
              replace s5 := Lib.hid s5
              replace hnm := Lib.hid hnm
              replace hqr := Lib.hid hqr
              go_wp2_with fail
              refine hnm.out.mono ?_
              rintro r w5 ⟨rfl, hrd5, hg5⟩
              have hb5 := hbl4.out.grx hg5 (by simp; omega)
              have hsz : i < (over #[.int .i64 0, .int .i64 0, .int .i64 0, .int .i64 0] ns).size := by rw [over_size (by rw [hns.out]; exact hi4)]; exact hi
              have cA := hb5.cell (i := i) (Array.getElem?_eq_getElem hsz)
              have fA := hb5.free i
              have hzb5 := hb5.lt
              have hb6 := hb5.set i (.int .i64 x)
              rw [show (over #[.int .i64 0, .int .i64 0, .int .i64 0, .int .i64 0] ns).setIfInBounds i (.int .i64 (x : Int)) = over #[.int .i64 0, .int .i64 0, .int .i64 0, .int .i64 0] (ns ++ [x]) by have := over_set (cs := #[.int .i64 0, .int .i64 0, .int .i64 0, .int .i64 0]) (ns := ns) (by rw [hns.out]; exact hi) x; rwa [hns.out] at this] at hb6
              have hr6 := hrd5.grx (S := [tb]) ((GrX.refl _ _).set (p := ⟨tb, i, none⟩) (.inl (by simp)) (.int .i64 x)) (by simp; omega) (fun b hb => by simp; omega)
              rw [Nat.add_assoc] at hr6
              replace hb5 := Lib.hid hb5
              replace hb6 := Lib.hid hb6
              replace hr6 := Lib.hid hr6
              replace hrd5 := Lib.hid hrd5
              replace hsz := Lib.hid hsz
              go_wp2_with fail
              go_roundw
              case rel => exact ⟨i + 1, v + j2, ns ++ [x], by go_num, by omega, Lib.hid (by rw [List.length_append, hns.out]; rfl), s5, hr6, hb6, (hg4.trans (hg5.mono (fun x hx => by simp at hx; simp [hx]))).set (.inl (by simp)) _⟩
              case measure => simp [intOf]; omega
            · have hie4 : i = 4 := by omega
              have hib4 : decide ((i : Int) < 4) = false := decide_eq_false (by omega)
              have hdn4 := numsR_done (by rw [hns.out]; exact hie4) heq.out
              rw [hs4.out] at hdn4
              obtain ⟨rfl, rfl⟩ : ns = tskNat t ∧ s = v := by cases hdn4; exact ⟨rfl, rfl⟩
              have hbT : Blk wr tb (Tsk.cells t).toArray 117 := by
                have h1 := hbl4.out
                have e : over #[.int .i64 0, .int .i64 0, .int .i64 0, .int .i64 0] (tskNat t) = (Tsk.cells t).toArray := by
                  show #[Value.int .i64 ((t.c.toNat : Nat) : Int), .int .i64 ((t.p.toNat : Nat) : Int), .int .i64 ((t.d.toNat : Nat) : Int), .int .i64 ((t.s.toNat : Nat) : Int)] = #[Value.int .i64 t.c, .int .i64 t.p, .int .i64 t.d, .int .i64 t.s]
                  have a0 := (htn.out t.c (by simp [tskN])).1
                  have a1 := (htn.out t.p (by simp [tskN])).1
                  have a2 := (htn.out t.d (by simp [tskN])).1
                  have a3 := (htn.out t.s (by simp [tskN])).1
                  rw [show ((t.c.toNat : Nat) : Int) = t.c by omega, show ((t.p.toNat : Nat) : Int) = t.p by omega, show ((t.d.toNat : Nat) : Int) = t.d by omega, show ((t.s.toNat : Nat) : Int) = t.s by omega]
                rw [e] at h1
                exact h1
              have hEr := (hbl.out.gr ((Gr.refl wo).alloc (.cells #[.int .i64 0, .int .i64 0, .int .i64 0, .int .i64 0] 117))).grx hg4 (by simp; omega)
              have hobt : ∀ x, (Value.slice a1 q c1).ownBlock = some x → W3.heap.size ≤ x ∧ x < wo.heap.size := fun x hx => by
                have := owns_lt hO.out x hx
                exact ⟨this.2, this.1⟩
              have hOr := owns_grx (owns_gr hO.out ((Gr.refl wo).alloc (.cells #[.int .i64 0, .int .i64 0, .int .i64 0, .int .i64 0] 117))) hg4 (fun x hx => by have := hobt x hx; have := z3.out; simp; omega)
              obtain ⟨wz, hwz⟩ : ∃ wz, wz = wr.alloc (.cells (Tsk.cells t).toArray 117) := ⟨_, rfl⟩
              have gz : Gr wr wz := by rw [hwz]; exact (Gr.refl wr).alloc _
              have hEz := hEr.gr gz
              have hOz := owns_gr hOr gz
              have hrz := hrd4.out.gr gz
              have hsz : RecsAt 4 Tsk.cells wz (some ⟨wr.heap.size, 0, none⟩) [t] := by rw [hwz]; exact recs_alloc1 Tsk.cells_len wr rfl [t] _ _ (by simp)
              have gx3 : GrX [rb, eb] W3 wz := ((hg.gr ((Gr.refl wo).alloc (.cells #[.int .i64 0, .int .i64 0, .int .i64 0, .int .i64 0] 117))).trans2 hg4 (fun x hx => by simp at hx; rcases hx with rfl | rfl; exact .inl (by simp); exact .inr (by omega))).gr gz
              have c8 := hEr.cell (i := 8) (v := .slice a1 q c1) rfl
              have d0 := hbT.cell (i := 0) (v := .int .i64 t.c) rfl
              have d1 := hbT.cell (i := 1) (v := .int .i64 t.p) rfl
              have d2 := hbT.cell (i := 2) (v := .int .i64 t.d) rfl
              have d3 := hbT.cell (i := 3) (v := .int .i64 t.s) rfl
              have hln2 : (L ++ [t]).length = q + 1 := by rw [List.length_append, hLl.out]; rfl
              have hwz3 : W3.heap.size ≤ wz.heap.size := gx3.size
              have hnr : numsR (4 * (m9 - (q + 1))) (p.drop (k + (u + s))) = some ((L0.drop (q + 1)).flatMap tskNat, j - (u + s)) := by
                have h1 := hsr.out
                rw [List.drop_drop, Nat.add_assoc, Nat.sub_sub] at h1
                exact h1
              replace hEr := Lib.hid hEr
              replace hOr := Lib.hid hOr
              replace hEz := Lib.hid hEz
              replace hOz := Lib.hid hOz
              replace hrz := Lib.hid hrz
              replace hsz := Lib.hid hsz
              replace hln2 := Lib.hid hln2
              replace hnr := Lib.hid hnr
              replace hbT := Lib.hid hbT
              replace hdn4 := Lib.hid hdn4
              replace hie4 := Lib.hid hie4
              replace hwz := Lib.hid hwz
              go_wp2_with (at_builtin; go_loud (rw [← hwz.out]; refine wpList_appT (B := W3.heap.size) rfl _ _ rfl a1 c1 q L rfl hLl.out hOz.out (some ⟨wr.heap.size, 0, none⟩) 1 [t] rfl hsz.out (fun h => by cases h) (by simp; omega) hwz3 ?_; intro a2 c2 w7 hown7 hr7 hn7 hB7 hgr7; rw [hln2.out] at hown7 ⊢; have hE7 := hEz.out.grown hgr7 (fun e => by have := hobt eb e.symm; have := z3.out; omega); have hrd7 := RdAt.grown hrz.out hgr7 (fun x hx => by have := hobt x hx; have := z3.out; constructor <;> omega); have gx7 := gx3.grown hgr7 (fun x hx => .inr (hobt x hx).1); have e8 := hE7.cell (i := 8) (v := .slice a1 q c1) rfl; have f8 := hE7.free 8; have z8 := hE7.lt; replace hown7 := Lib.hid hown7; replace hr7 := Lib.hid hr7; replace hn7 := Lib.hid hn7; replace hB7 := Lib.hid hB7; replace hE7 := Lib.hid hE7; replace hrd7 := Lib.hid hrd7; clear hgr7))
              go_roundw
              case rel =>
                have g8 : GrX [eb] w7 (w7.setCell ⟨eb, 8, none⟩ (.slice a2 (q + 1) c2)) := (GrX.refl _ _).set (.inl (by simp)) _
                have z3' := z3.out
                refine ⟨q + 1, u + s, L ++ [t], a2, c2, by go_num, by omega, hLn, Lib.hid ?_, Lib.hid ⟨?_, hn7.out, hB7.out⟩, Lib.hid ⟨hnr.out, by have := hnu.out.2; omega⟩, Lib.hid ?_, Lib.hid (hE7.out.set 8 _), gx7.set (.inl (by simp)) _⟩
                · rw [hln2.out]
                  exact owns_grx hown7.out g8 (fun x hx => by have := owns_lt hown7.out x hx; simp; omega)
                · exact (RecsIn.grx (K := fun b => W3.heap.size ≤ b) ⟨hr7.out, fun x hx _ => hB7.out x hx⟩ g8 (fun x hx => by simp at hx; omega)).1
                · have h1 := hrd7.out.grx g8 (by simp; omega) (fun b hb => by simp; omega)
                  rw [Nat.add_assoc] at h1
                  exact h1
              case measure => simp [intOf]; omega
        · have hqe : q = m9 := by omega
          have hqb : decide ((q : Int) < m9) = false := decide_eq_false (by omega)
          have hLe : L = L0 := by rw [hL.out, List.take_of_length_le (by rw [hm9.out]; omega)]
          have hu : u = j := by
            have h1 := hnu.out
            rw [hqe, Nat.sub_self] at h1
            obtain ⟨h2, h3⟩ := h1
            have h4 : (0 : Nat) = j - u := congrArg Prod.snd (Option.some.inj h2)
            omega
          have hrd8 := hrd.out
          rw [hu, hl.out] at hrd8
          have hen := rend_yes wo rb p hrd8
          have gwo : Gr w wo := GrX.all gw3 hg (fun x hx => by simp at hx; rcases hx with rfl | rfl <;> omega)
          have hRo := hR3.out.grx hg (by simp; omega)
          have hO' := hO.out
          rw [hLl] at hO'
          have hmx := owns_tmax hO'
          clear hO'
          have hok : (⟨(⟨m0, m1, m2, m4, ⟨m5, m6, m7⟩, m8, L0, m3⟩ : Ent), a1, c1⟩ : EntM).ok Any wo := by
            refine ⟨⟨by rw [← hLe]; exact hrc.out.1, fun _ _ _ => trivial⟩, hrc.out.2.1, by show L0.length ≤ c1; rw [hm9.out]; omega, hmx.2, by show L0.length * 32 ≤ _; rw [hm9.out]; omega⟩
          have hck := fun w8 (g : Gr wo w8) => check_any (⟨(⟨m0, m1, m2, m4, ⟨m5, m6, m7⟩, m8, L0, m3⟩ : Ent), a1, c1⟩ : EntM) w8 (hok.gr g) (hE.gr (gwo.trans g)) i0
          dsimp only at hck
          rw [hf.out, hm9.out] at hck
          rw [← hqe] at hck
          replace hrd8 := Lib.hid hrd8
          replace hen := Lib.hid hen
          replace hRo := Lib.hid hRo
          replace hok := Lib.hid hok
          replace hck := Lib.hid hck
          replace hqe := Lib.hid hqe
          replace hLe := Lib.hid hLe
          replace hu := Lib.hid hu
          go_wp2_with fail
          refine hen.out.mono ?_
          rintro r w8 ⟨rfl, g8⟩
          have hE8 := hbl.out.gr g8
          have x8_0 := hE8.cell (i := 0) (v := .int .i64 m0) rfl
          have x8_1 := hE8.cell (i := 1) (v := .int .i64 m1) rfl
          have x8_2 := hE8.cell (i := 2) (v := .int .i64 m2) rfl
          have x8_3 := hE8.cell (i := 3) (v := .int .i64 m4) rfl
          have x8_4 := hE8.cell (i := 4) (v := .int .i64 m5) rfl
          have x8_5 := hE8.cell (i := 5) (v := .int .i64 m6) rfl
          have x8_6 := hE8.cell (i := 6) (v := .int .i64 m7) rfl
          have x8_7 := hE8.cell (i := 7) (v := .int .i64 m8) rfl
          have x8_8 := hE8.cell (i := 8) (v := .slice a1 q c1) rfl
          have x8_9 := hE8.cell (i := 9) (v := .int .i64 m3) rfl
          have hck8 : Calls Tryd.prog 57 #[.agg #[.int .i64 m0, .int .i64 m1, .int .i64 m2, .int .i64 m4, .int .i64 m5, .int .i64 m6, .int .i64 m7, .int .i64 m8, .slice a1 q c1, .int .i64 m3]] w8 fun e w' => e = .returned .nilIface ∧ Gr w8 w' := hck.out w8 g8
          replace hE8 := Lib.hid hE8
          replace hck8 := Lib.hid hck8
          go_wp2_with fail
          refine hck8.out.mono ?_
          rintro r w9 ⟨rfl, g9⟩
          have hE9 := hE8.out.gr g9
          have hR9 := hRo.out.gr (g8.trans g9)
          have gw9 := gwo.trans (g8.trans g9)
          have x9_0 := hE9.cell (i := 0) (v := .int .i64 m0) rfl
          have x9_1 := hE9.cell (i := 1) (v := .int .i64 m1) rfl
          have x9_2 := hE9.cell (i := 2) (v := .int .i64 m2) rfl
          have x9_3 := hE9.cell (i := 3) (v := .int .i64 m4) rfl
          have x9_4 := hE9.cell (i := 4) (v := .int .i64 m5) rfl
          have x9_5 := hE9.cell (i := 5) (v := .int .i64 m6) rfl
          have x9_6 := hE9.cell (i := 6) (v := .int .i64 m7) rfl
          have x9_7 := hE9.cell (i := 7) (v := .int .i64 m8) rfl
          have x9_8 := hE9.cell (i := 8) (v := .slice a1 q c1) rfl
          have x9_9 := hE9.cell (i := 9) (v := .int .i64 m3) rfl
          have y9_0 := hR9.cell (i := 0) (v := .int .i64 0) rfl
          have f9_0 := hR9.free 0
          have y9_1 := hR9.cell (i := 1) (v := .int .i64 0) rfl
          have f9_1 := hR9.free 1
          have y9_2 := hR9.cell (i := 2) (v := .int .i64 0) rfl
          have f9_2 := hR9.free 2
          have y9_3 := hR9.cell (i := 3) (v := .int .i64 0) rfl
          have f9_3 := hR9.free 3
          have y9_4 := hR9.cell (i := 4) (v := .int .i64 0) rfl
          have f9_4 := hR9.free 4
          have y9_5 := hR9.cell (i := 5) (v := .int .i64 0) rfl
          have f9_5 := hR9.free 5
          have y9_6 := hR9.cell (i := 6) (v := .int .i64 0) rfl
          have f9_6 := hR9.free 6
          have y9_7 := hR9.cell (i := 7) (v := .int .i64 0) rfl
          have f9_7 := hR9.free 7
          have y9_8 := hR9.cell (i := 8) (v := .slice none 0 0) rfl
          have f9_8 := hR9.free 8
          have y9_9 := hR9.cell (i := 9) (v := .int .i64 0) rfl
          have f9_9 := hR9.free 9
          replace hE9 := Lib.hid hE9
          replace hR9 := Lib.hid hR9
          go_wp2_with fail
          refine bodyPost_ret (v := .tuple #[.agg #[.int .i64 m0, .int .i64 m1, .int .i64 m2, .int .i64 m4, .int .i64 m5, .int .i64 m6, .int .i64 m7, .int .i64 m8, .slice a1 q c1, .int .i64 m3], .nilIface]) ?_ rfl ⟨a1, c1, ?_, ?_, ?_⟩
          · refine (res_cell (b := w.heap.size) (t := 79) Tryd.results42 _ _ (hR9.out.set10 ?_ _ _ _ _ _ _ _ _ _ _) ?_ Tryd.underlying79 (by kernel_rfl)).trans ?_
            · rfl
            · simp
            · simp
          · rw [hm9.out, ← hqe.out]
          · have hrw := (RecsIn.grx (K := fun b => W3.heap.size ≤ b) ⟨RecsAt.of_below hrc.out.1 (B := wo.heap.size) (fun x hx => (owns_lt hO.out x.block (by rw [hx]; rfl)).1) (g8.trans g9), fun x hx _ => hrc.out.2.2 x hx⟩ ((GrX.refl [w.heap.size] w9).set10 (b := w.heap.size) (by simp) (.int .i64 m0) (.int .i64 m1) (.int .i64 m2) (.int .i64 m4) (.int .i64 m5) (.int .i64 m6) (.int .i64 m7) (.int .i64 m8) (.slice a1 q c1) (.int .i64 m3)) (fun x hx => by simp at hx; have := z3.out; omega)).1
            rw [hLe.out] at hrw
            exact ⟨hrw, hrc.out.2.1, by rw [hm9.out]; have := hqe.out; omega, hmx.2, fun y hy => by have := hrc.out.2.2 y hy; have := z3.out; omega⟩
          · exact GrX.all gw9 ((GrX.refl [w.heap.size] w9).set10 (b := w.heap.size) (by simp) _ _ _ _ _ _ _ _ _ _) (fun x hx => by simp at hx; omega)
end Go.Proofs.YtlgbnjaoadlolaaDoor
