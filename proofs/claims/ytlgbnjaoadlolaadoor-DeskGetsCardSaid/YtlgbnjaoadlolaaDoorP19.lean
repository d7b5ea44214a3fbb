/- wire.Reader: Bytes, NewReader; desk.opened of a frame. -/
import Derived.Test.YtlgbnjaoadlolaaDoorP18
namespace Go.Proofs.YtlgbnjaoadlolaaDoor
open Go.RowKit

/-- A row of bytes made since W, whatever else became of the world. -/
def OwnX (W w : World) (a : Option Addr) (c : Nat) (l : List UInt8) : Prop := w.ownsRow W.heap.size 5 1 (.slice a l.length c) l.length (l.flatMap byteC) ∧ BytesAt w a l ∧ (a = none → c = 0) ∧ (∀ x, a = some x → W.heap.size ≤ x.block)
theorem Own.x {W w : World} {a : Option Addr} {c : Nat} {l : List UInt8} (h : Own W w a c l) : OwnX W w a c l := ⟨h.1, h.2.1, h.2.2.1, h.2.2.2.1⟩
theorem OwnX.own {W w : World} {a : Option Addr} {c : Nat} {l : List UInt8} (h : OwnX W w a c l) (g : Gr W w) : Own W w a c l := ⟨h.1, h.2.1, h.2.2.1, h.2.2.2, g⟩
theorem OwnX.older {W W1 w : World} {a : Option Addr} {c : Nat} {l : List UInt8} (h : OwnX W1 w a c l) (g : W.heap.size ≤ W1.heap.size) : OwnX W w a c l := by
  obtain ⟨h1, h2, h3, h4⟩ := h
  refine ⟨⟨h1.1, ?_⟩, h2, h3, fun x hx => Nat.le_trans g (h4 x hx)⟩
  rcases h1.2 with hn | ⟨b, cap, cur, e1, e2, e3⟩
  · exact .inl hn
  · exact .inr ⟨b, cap, cur, e1, Nat.le_trans g e2, e3⟩
theorem OwnX.gr {W w w' : World} {a : Option Addr} {c : Nat} {l : List UInt8} (h : OwnX W w a c l) (g : Gr w w') : OwnX W w' a c l := ⟨owns_gr h.1 g, h.2.1.gr g, h.2.2⟩
theorem OwnX.cap {W w : World} {a : Option Addr} {c : Nat} {l : List UInt8} (h : OwnX W w a c l) : l.length ≤ c := by
  rcases h.1.2 with hn | ⟨g, cap, cur, hv, hg, hh, hn, _⟩
  · have := hn.2; omega
  · cases hv; exact hn
theorem OwnX.lt {W w : World} {a : Option Addr} {c : Nat} {l : List UInt8} (h : OwnX W w a c l) {x : Addr} (hx : a = some x) : x.block < w.heap.size := (owns_lt h.1 _ (own_blk hx)).1
theorem owns_grx {S : List Nat} {w w' : World} {base : Nat} {e : TypeId} {size : Nat} {v : Value} {n : Nat} {xs : List Value} (h : w.ownsRow base e size v n xs) (g : GrX S w w') (hS : ∀ k, v.ownBlock = some k → k ∉ S) : w'.ownsRow base e size v n xs := by
  refine ⟨h.1, ?_⟩
  rcases h.2 with hn | ⟨b, cap, cur, h1, h2, h3, h4⟩
  · exact .inl hn
  · refine .inr ⟨b, cap, cur, h1, h2, ?_, h4⟩
    rw [g.block b (Array.getElem?_eq_some_iff.1 h3).1 (hS b (by rw [h1]; rfl))]
    exact h3
theorem BytesAt.grx {S : List Nat} {w w' : World} {a : Option Addr} {l : List UInt8} (h : BytesAt w a l) (g : GrX S w w') (hS : ∀ x, a = some x → l ≠ [] → x.block ∉ S) : BytesAt w' a l :=
  h.same g.size (fun x hx hl => g.block _ (RecsAt.lt h hx hl) (hS x hx hl))
theorem OwnX.grx {S : List Nat} {W w w' : World} {a : Option Addr} {c : Nat} {l : List UInt8} (h : OwnX W w a c l) (g : GrX S w w') (hS : ∀ x, a = some x → x.block ∉ S) : OwnX W w' a c l :=
  ⟨owns_grx h.1 g (fun k hk => by
    cases a with
    | none => cases hk
    | some x => cases hk; exact hS x rfl), h.2.1.grx g (fun x hx _ => hS x hx), h.2.2⟩

set_option maxRecDepth 100000 in
set_option maxHeartbeats 1600000 in
theorem rbytes_yes {K : Nat → Prop} (w : World) (rb : Nat) (p : List UInt8) (at_ : Nat) (most : Int) (h : RdAt K w rb p at_) {n k : Nat} (hq : numR (p.drop at_) = some (n, k)) (hm : (n : Int) ≤ most) (hl : n ≤ p.length - (at_ + k)) :
    Calls Tryd.prog 32 #[.pointer (some ⟨rb, 0, none⟩), .int .i64 most] w fun e w' => ∃ a c, e = .returned (.tuple #[.slice a n c, .nilIface]) ∧ OwnX w w' a c ((p.drop (at_ + k)).take n) ∧ RdAt K w' rb p (at_ + k + n) ∧ GrX [rb] w w' := by
  have hn := number_yes w rb p at_ h hq
  have hkb := (numR_bd hq).2.2.2
  rw [List.length_drop] at hkb
  obtain ⟨a, c, hb, hr, hcn, hax, hat, hpc, hpm⟩ := h
  dsimp only at hkb
  have c0 := hb.cell (i := 0) (v := .slice a p.length c) rfl
  have c1 := hb.cell (i := 1) (v := .int .i64 at_) rfl
  have f1 := hb.free 1
  have hz := hb.lt
  obtain ⟨s, hs⟩ : ∃ s, at_ + k = s := ⟨_, rfl⟩
  rw [hs] at hn hl
  have hsp : s ≤ p.length := by omega
  have hns : s + n ≤ p.length := by omega
  obtain ⟨w2, hw2⟩ : ∃ w2, w2 = w.setCell ⟨rb, 1, none⟩ (.int .i64 ((s : Int) + n)) := ⟨_, rfl⟩
  have hb2 : Blk w2 rb #[.slice a p.length c, .int .i64 ((s : Int) + n)] 111 := by rw [hw2]; exact hb.set 1 _
  have hr2 : BytesAt w2 a p := by rw [hw2]; exact hr.set (fun x hx => (hax x hx).1) _
  have hg2 : GrX [rb] w w2 := by rw [hw2]; exact (GrX.refl _ _).set (.inl (by simp)) _
  have d0 := hb2.cell (i := 0) (v := .slice a p.length c) rfl
  have d1 := hb2.cell (i := 1) (v := .int .i64 ((s : Int) + n)) rfl
  have hpl : ((p.drop s).take n).length = n := by rw [List.length_take, List.length_drop]; omega
  have hcl : ∀ w3 b off, a = some ⟨b, off, none⟩ → Gr w2 w3 → Calls Tryd.prog 55 #[.slice (some ⟨b, off + s, none⟩) n (c - s)] w3 fun e w' => ∃ a' c', e = .returned (.slice a' n c') ∧ Own w3 w' a' c' ((p.drop s).take n) := fun w3 b off ha g3 => by
    subst ha
    have := cloneB_any w3 (some ⟨b, off + s, none⟩) (c - s) ((p.drop s).take n) (((hr2.drop s).take n).gr g3) (fun h => by cases h) (by omega)
    rwa [hpl] at this
  have hd : ∀ x, a = some x → ∃ b off, x = ⟨b, off, none⟩ := fun x hx => by
    have hne : p ≠ [] := by intro e; rw [e] at hsp; have := (numR_bd hq).2.1; simp at hsp; dsimp only at this; omega
    obtain ⟨y, r, hyr⟩ := List.exists_cons_of_ne_nil hne
    obtain ⟨b, off, hh, _⟩ := hr.get (i := 0) (d := y) (by rw [hyr]; rfl)
    exact ⟨b, off, by rw [hx] at hh; exact Option.some.inj hh⟩
  cases a with
  | none =>
    exfalso
    have hne : p ≠ [] := by intro e; rw [e] at hsp; have := (numR_bd hq).2.1; simp at hsp; dsimp only at this; omega
    obtain ⟨y, r, hyr⟩ := List.exists_cons_of_ne_nil hne
    obtain ⟨b, off, hh, _⟩ := hr.get (i := 0) (d := y) (by rw [hyr]; rfl)
    cases hh
  | some x =>
    obtain ⟨b, off, rfl⟩ := hd x rfl
    have hcl2 := fun w3 g3 => hcl w3 b off rfl g3
    clear hcl hd
    have t1 : (s : Int) ≤ (s : Int) + n := by omega
    have t2 : (s : Int) + n ≤ c := by omega
    have t3 : (s : Int) + n ≤ p.length := by omega
    have t4 : ((s : Int) + n).toNat = s + n := by omega
    have t5 : ¬ (p.length : Int) - s < n := by omega
    have t6 : s ≤ c := by omega
    replace hn := Lib.hid hn
    replace hb := Lib.hid hb
    replace hb2 := Lib.hid hb2
    replace hax := Lib.hid hax
    replace hcn := Lib.hid hcn
    replace hr := Lib.hid hr
    replace hr2 := Lib.hid hr2
    replace hq := Lib.hid hq
    replace hs := Lib.hid hs
    replace hw2 := Lib.hid hw2
    replace hpl := Lib.hid hpl
    replace hcl2 := Lib.hid hcl2
    have hb3 : Blk w2 rb #[.slice (some ⟨b, off, none⟩) p.length c, .int .i64 ((at_ + k + n : Nat) : Int)] 111 := by
      have := hb2.out
      rw [show ((s : Int) + n) = ((at_ + k + n : Nat) : Int) by have := hs.out; omega] at this
      exact this
    replace hb3 := Lib.hid hb3
    by_cases hsc : s < c
    · have hcl4 := hcl2.out w2.drew ((Gr.refl _).drew)
      replace hcl4 := Lib.hid hcl4
      go_enter Tryd.func32, Tryd.ntmps32
      go_wp2_with fail
      refine (hn.out).mono ?_
      rintro e wa ⟨rfl, rfl⟩
      go_upto_region 5 with fail
      rw [← hw2.out]
      go_region_with (go_at_call 55; refine hcl4.out.mono ?_; rintro e w3 ⟨a3, c3, rfl, ho3⟩; replace ho3 := Lib.hid ho3)
      all_goals
        go_wp2_with fail
        go_ret2
        have g3 := hg2.trans (((Gr.refl w2).drew.trans ho3.out.2.2.2.2).x [rb])
        have hox := OwnX.older (W := w) (W1 := w2.drew) ho3.out.x hg2.size
        rw [← hs.out] at hox
        exact ⟨a3, c3, rfl, hox, ⟨_, _, hb3.out.gr ((Gr.refl w2).drew.trans ho3.out.2.2.2.2), hr2.out.gr ((Gr.refl w2).drew.trans ho3.out.2.2.2.2), hcn.out, hax.out, by have := hs.out; omega, hpc, hpm⟩, g3⟩
    · have hcl3 : ∀ w3 : World, Calls Tryd.prog 55 #[.slice (some ⟨b, off, none⟩) n 0] w3 fun e w' => ∃ a' c', e = .returned (.slice a' n c') ∧ Own w3 w' a' c' ((p.drop s).take n) := fun w3 => by
        have h0 : (p.drop s).take n = [] := List.length_eq_zero_iff.1 (by rw [hpl.out]; omega)
        have := cloneB_any w3 (some ⟨b, off, none⟩) 0 ((p.drop s).take n) (by rw [h0]; exact fun i d hi => by simp at hi) (fun h => by cases h) (by rw [hpl.out]; omega)
        rwa [hpl.out] at this
      replace hcl3 := Lib.hid (hcl3 w2.drew)
      have hsc2 : ¬ (s : Int) < c := by omega
      go_enter Tryd.func32, Tryd.ntmps32
      go_wp2_with fail
      refine (hn.out).mono ?_
      rintro e wa ⟨rfl, rfl⟩
      go_upto_region 5 with fail
      rw [← hw2.out]
      go_region_with (go_at_call 55; refine hcl3.out.mono ?_; rintro e w3 ⟨a3, c3, rfl, ho3⟩; replace ho3 := Lib.hid ho3)
      all_goals
        go_wp2_with fail
        go_ret2
        have g3 := hg2.trans (((Gr.refl w2).drew.trans ho3.out.2.2.2.2).x [rb])
        have hox := OwnX.older (W := w) (W1 := w2.drew) ho3.out.x hg2.size
        rw [← hs.out] at hox
        exact ⟨a3, c3, rfl, hox, ⟨_, _, hb3.out.gr ((Gr.refl w2).drew.trans ho3.out.2.2.2.2), hr2.out.gr ((Gr.refl w2).drew.trans ho3.out.2.2.2.2), hcn.out, hax.out, by have := hs.out; omega, hpc, hpm⟩, g3⟩
end Go.Proofs.YtlgbnjaoadlolaaDoor
