/- wire.Reader.Bytes refused; NewReader; desk.opened of a frame and of more than a frame. -/
import Derived.Test.YtlgbnjaoadlolaaDoorP19
namespace Go.Proofs.YtlgbnjaoadlolaaDoor
open Go.RowKit

set_option maxRecDepth 100000 in
set_option maxHeartbeats 1600000 in
theorem rbytes_no {K : Nat → Prop} {G : List Nat} {E : Nat → Addr} (w : World) (rb : Nat) (p : List UInt8) (at_ : Nat) (most : Int) (h : RdAt K w rb p at_) (hE : EAt G E w) (i1 : 1 ∈ G) (hq : ∀ v k, numR (p.drop at_) = some (v, k) → most < v ∨ p.length - (at_ + k) < v) :
    Calls Tryd.prog 32 #[.pointer (some ⟨rb, 0, none⟩), .int .i64 most] w fun e w' => e = .returned (.tuple #[.slice none 0 0, (Value.iface 137 (.pointer (some (E 1))))]) ∧ Gr w w' := by
  have he := hE.c0 i1
  have h0 := h
  obtain ⟨a, c, hb, hr, hcn, hax, hat, hpc, hpm⟩ := h
  have c0 := hb.cell (i := 0) (v := .slice a p.length c) rfl
  have c1 := hb.cell (i := 1) (v := .int .i64 at_) rfl
  have hz := hb.lt
  replace hb := Lib.hid hb
  replace hax := Lib.hid hax
  replace hcn := Lib.hid hcn
  replace hr := Lib.hid hr
  cases hn : numR (p.drop at_) with
  | none =>
    have hc := number_no w rb p at_ h0 hn
    replace hc := Lib.hid hc
    replace hn := Lib.hid hn
    replace hq := Lib.hid hq
    go_enter Tryd.func32, Tryd.ntmps32
    go_wp2_with fail
    refine hc.out.mono ?_
    rintro e w1 ⟨x, y, rfl, rfl⟩
    go_upto_region 3 with fail
    go_region
    go_wp2_with fail
    go_ret2
    exact ⟨rfl, (by repeat (first | exact Gr.refl _ | apply Gr.alloc | apply Gr.drew | apply Gr.drewN | (refine Gr.setCell ?_ (by first | (simp; done) | (simp; omega)) _) | (refine Gr.trans ?_ (by assumption))))⟩
  | some q =>
    obtain ⟨v, k⟩ := q
    have hkb := (numR_bd hn).2.2.2
    rw [List.length_drop] at hkb
    dsimp only at hkb
    have hm := hq v k hn
    have hc := number_yes w rb p at_ h0 hn
    obtain ⟨s, hs⟩ : ∃ s, at_ + k = s := ⟨_, rfl⟩
    rw [hs] at hc hm
    have hsp : s ≤ p.length := by omega
    replace hs := Lib.hid hs
    replace hc := Lib.hid hc
    replace hn := Lib.hid hn
    replace hq := Lib.hid hq
    by_cases hmv : most < v
    · replace hm := Lib.hid hm
      go_enter Tryd.func32, Tryd.ntmps32
      go_wp2_with fail
      refine (hc.out).mono ?_
      rintro e wa ⟨rfl, rfl⟩
      go_upto_region 3 with fail
      go_region
      go_wp2_with fail
      go_ret2
      exact ⟨rfl, (by repeat (first | exact Gr.refl _ | apply Gr.alloc | apply Gr.drew | apply Gr.drewN | (refine Gr.setCell ?_ (by first | (simp; done) | (simp; omega)) _) | (refine Gr.trans ?_ (by assumption))))⟩
    · have hlt : (p.length : Int) - s < v := by omega
      replace hm := Lib.hid hm
      go_enter Tryd.func32, Tryd.ntmps32
      go_wp2_with fail
      refine (hc.out).mono ?_
      rintro e wa ⟨rfl, rfl⟩
      go_upto_region 3 with fail
      go_region
      go_wp2_with fail
      go_ret2
      exact ⟨rfl, (by repeat (first | exact Gr.refl _ | apply Gr.alloc | apply Gr.drew | apply Gr.drewN | (refine Gr.setCell ?_ (by first | (simp; done) | (simp; omega)) _) | (refine Gr.trans ?_ (by assumption))))⟩
set_option maxHeartbeats 1600000 in
theorem newReader_any (w : World) (a : Option Addr) (c : Nat) (l : List UInt8) (h : BytesAt w a l) (hc : a = none → c = 0) (hm : l.length ≤ 100000) :
    Calls Tryd.prog 52 #[.slice a l.length c] w fun e w' => ∃ rb, e = .returned (.pointer (some ⟨rb, 0, none⟩)) ∧ RdAt (fun b => b < w'.heap.size) w' rb l 0 ∧ w.heap.size ≤ rb ∧ Gr w w' := by
  have hcl := cloneB_any w a c l h hc (by omega)
  replace hcl := Lib.hid hcl
  replace h := Lib.hid h
  replace hc := Lib.hid hc
  go_enter Tryd.func52, Tryd.ntmps52
  go_wp2_with fail
  refine hcl.out.mono ?_
  rintro e w1 ⟨a1, c1, rfl, h1⟩
  have hx := h1.x
  have g := h1.2.2.2.2
  replace h1 := Lib.hid h1
  go_wp2_with fail
  go_ret
  refine ⟨w1.heap.size, rfl, ⟨a1, c1, Blk.new w1 _ _, hx.2.1.gr ((Gr.refl w1).alloc _), hx.2.2.1, fun x hxx => ?_, Nat.zero_le _, hx.cap, hm⟩, g.size, g.alloc _⟩
  have := hx.lt hxx
  exact ⟨by omega, by simp; omega⟩
set_option maxRecDepth 100000 in
set_option maxHeartbeats 1600000 in
/-- A frame that is whole: a reader of its payload. -/
theorem opened_yes (w : World) (b off c : Nat) (L : List UInt8) (hS : BytesAt w (some ⟨b, off, none⟩) (frameB L)) (hL : L.length ≤ 32768) (hc : (frameB L).length ≤ c) :
    Calls Tryd.prog 30 #[.slice (some ⟨b, off, none⟩) (frameB L).length c] w fun e w' => ∃ rb, e = .returned (.tuple #[.pointer (some ⟨rb, 0, none⟩), .nilIface]) ∧ RdAt (fun b => b < w'.heap.size) w' rb L 0 ∧ w.heap.size ≤ rb ∧ Gr w w' := by
  have hfl := frameB_len L
  have hR : Calls Tryd.prog 51 #[.slice (some ⟨b, off, none⟩) (frameB L).length c] w fun e w' => ∃ a' c', e = .returned (.tuple #[.slice a' L.length c', .int .i64 ((L.length : Int) + 8), .nilIface]) ∧ Own w w' a' c' L := by
    obtain ⟨x0, x1, x2, x3, hx⟩ := four_of (le32_len L.length)
    have hxn : un32 [x0, x1, x2, x3] = L.length := by
      have := un32_le32 (n := L.length) (by omega) []
      rwa [hx, List.append_nil] at this
    obtain ⟨A, hA⟩ : ∃ A, A = le32 L.length ++ L := ⟨_, rfl⟩
    have hAl : A.length = 4 + L.length := by rw [hA, List.length_append, le32_len]
    obtain ⟨y0, y1, y2, y3, hy⟩ := four_of (le32_len (crc A))
    have hyn : un32 [y0, y1, y2, y3] = crc A := by
      have := un32_le32 (n := crc A) (crc_lt A) []
      rwa [hy, List.append_nil] at this
    have hF : frameB L = A ++ le32 (crc A) := by unfold frameB; rw [← hA]
    have hF2 : frameB L = x0 :: x1 :: x2 :: x3 :: (L ++ le32 (crc A)) := by rw [hF, hA, hx]; rfl
    have hd4 : ((frameB L).drop 4).take L.length = L := by
      rw [hF2]
      exact List.take_left' rfl
    have := read_good w b off c (frameB L) hS x0 x1 x2 x3 y0 y1 y2 y3 _ [] hF2 L.length hxn hL (by omega) hc (by unfold maxLen; omega) (by rw [hF, ← hy]; exact List.drop_left' hAl) (by rw [hF, List.take_left' hAl, hyn])
    rwa [hd4] at this
  have hnr := fun w1 a1 c1 (ho : Own w w1 a1 c1 L) => newReader_any w1 a1 c1 L ho.2.1 ho.2.2.1 (by omega)
  obtain ⟨n, hn⟩ : ∃ n, L.length = n := ⟨_, rfl⟩
  have hfn : (frameB L).length = n + 8 := by omega
  rw [hn] at hR hnr
  rw [hfn] at hR ⊢
  have hnb : n ≤ 32768 := by omega
  replace hR := Lib.hid hR
  replace hnr := Lib.hid hnr
  replace hn := Lib.hid hn
  replace hfn := Lib.hid hfn
  replace hfl := Lib.hid hfl
  replace hS := Lib.hid hS
  have e1 : ((n : Int) + 8 == 0) = false := beq_eq_false_iff_ne.2 (by omega)
  go_enter Tryd.func30, Tryd.ntmps30
  go_wp2_with fail
  refine hR.out.mono ?_
  rintro e w1 ⟨a1, c1, rfl, h1⟩
  replace h1 := Lib.hid h1
  go_wp2_with fail
  refine (hnr.out w1 a1 c1 h1.out).mono ?_
  rintro e w2 ⟨rb, rfl, h2, h3, g2⟩
  have g1 := h1.out.2.2.2.2
  replace h2 := Lib.hid h2
  go_wp2_with fail
  go_ret2
  exact ⟨rb, rfl, h2.out, Nat.le_trans g1.size h3, g1.trans g2⟩
end Go.Proofs.YtlgbnjaoadlolaaDoor
