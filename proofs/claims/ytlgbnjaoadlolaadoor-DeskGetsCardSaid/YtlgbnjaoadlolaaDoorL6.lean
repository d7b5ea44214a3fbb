/- Openers of questions, answers, bytes. -/
import Derived.Test.YtlgbnjaoadlolaaDoorL3
import Derived.Test.YtlgbnjaoadlolaaDoorP3
namespace Go.Proofs.YtlgbnjaoadlolaaDoor
open Go.ChangeShapes Go.WideShapes Go.ChangeAt Go.RowKit Go.Deep Go.Joins
section
variable {H : Type} {enc : TypeId × Value → H} {W : World}

theorem u8_of_wf {x : Int} (h : (Lit.int .u8 x).wf = true) : 0 ≤ x ∧ x ≤ 255 := by
  simp [Lit.wf, IntKind.min, IntKind.max, IntKind.signed, IntKind.bits] at h
  exact ⟨by omega, by omega⟩
theorem u8_val {x : Int} (h0 : 0 ≤ x) (h1 : x ≤ 255) : ((UInt8.ofNat x.toNat).toNat : Int) = x := by
  rw [UInt8.toNat_ofNat']
  omega
theorem byte_of_trod (n : Nat) (cs : List Value) (y : DataW H × List MemPlace) (h : DataW.trod enc Tryd.prog W 0 (fun _ => true) true n 5 cs = some y) : ∃ d : UInt8, cs = byteC d ∧ True ∧ ((y.1.weights Tryd.prog 5).all (· ≤ reachBytes) = true → True) := by
  obtain ⟨k, e0, _, w0⟩ := DataW.trod_int Tryd.underlying5 h
  obtain ⟨h0, h1⟩ := u8_of_wf w0
  refine ⟨UInt8.ofNat k.toNat, ?_, trivial, fun _ => trivial⟩
  subst e0
  show [Value.int .u8 k] = [Value.int .u8 _]
  rw [u8_val h0 h1]
/-- Bytes as they came in. -/
def BytG (W : World) (a : Option Addr) (c : Nat) (l : List UInt8) : Prop := BytesAt W a l ∧ (a = none → c = 0) ∧ l.length ≤ c ∧ c ≤ maxLen
set_option maxRecDepth 100000 in
theorem bytes_of_trod {fuel : Nat} {cs : List Value} {x : DataW H × List MemPlace} (h : DataW.trod enc Tryd.prog W 0 (fun _ => true) true fuel 22 cs = some x) :
    ∃ (a : Option Addr) (c : Nat) (l : List UInt8), cs = [.slice a l.length c] ∧ BytG W a c l ∧ ((x.1.weights Tryd.prog 22).all (· ≤ reachBytes) = true → l.length ≤ reachBytes) := by
  obtain ⟨a, c, l, e, r1, r2, r3, r4, _, r6⟩ := recs_of_trod (k := 1) (bytes := 1) (code := byteC) Tryd.underlying22 (by kernel_rfl) (by kernel_rfl) (by omega) byteC_len (byte_of_trod (enc := enc) (W := W)) h
  exact ⟨a, c, l, e, ⟨r1.1, r2, r3, r4⟩, fun hw => by have := (r6 hw).1; omega⟩
set_option maxRecDepth 100000 in
theorem open_bytes {base : Nat} {v : Value} {d : DataW H} {p : List MemPlace} (hval : Value.okWide Tryd.prog W .any base 22 v) (h : DataW.Trod enc Tryd.prog W 0 (fun _ => true) true 22 v d p) :
    ∃ (a : Option Addr) (c : Nat) (l : List UInt8), v = .slice a l.length c ∧ BytG W a c l ∧ ((d.weights Tryd.prog 22).all (· ≤ reachBytes) = true → l.length ≤ reachBytes) := by
  obtain ⟨a0, len, cap, rfl⟩ := okWide_slice Tryd.underlying22 hval
  obtain ⟨fuel, hf⟩ := h
  obtain ⟨a, c, l, hcs, r1, r2⟩ := bytes_of_trod hf
  simp [Value.cells] at hcs
  obtain ⟨rfl, rfl, rfl⟩ := hcs
  exact ⟨_, _, l, rfl, r1, r2⟩

/-- A question as it lies. -/
abbrev askC (k : Int) (x : EntM) : List Value := [.int .i64 k, .int .i64 x.e.cl, .int .i64 x.e.nu, .int .i64 x.e.kd, .int .i64 x.e.id, .int .i64 x.e.srv.k, .int .i64 x.e.srv.q, .int .i64 x.e.srv.t, .int .i64 x.e.po, .slice x.a x.e.tasks.length x.c, .int .i64 x.e.at_]
set_option maxRecDepth 100000 in
theorem ask_of_trod (n : Nat) (cs : List Value) (y : DataW H × List MemPlace) (h : DataW.trod enc Tryd.prog W 0 (fun _ => true) true n 31 cs = some y) : ∃ (k : Int) (s : EntM), cs = askC k s ∧ I64 k ∧ EntG W s ∧ ((y.1.weights Tryd.prog 31).all (· ≤ reachBytes) = true → s.e.tasks.length * 32 ≤ reachBytes) := by
  obtain ⟨y0, y1, y2, y3, m, hy, hlen, t0, t1, t2, t3⟩ := trod_struct4 Tryd.underlying31 h
  have hc : Tryd.prog.cellsOf 31 = 11 := by kernel_rfl
  have hci : Tryd.prog.cellsOf 3 = 1 := by kernel_rfl
  have hcs : Tryd.prog.cellsOf 26 = 3 := by kernel_rfl
  have hct : Tryd.prog.cellsOf 27 = 1 := by kernel_rfl
  have hco : Tryd.prog.cellsOf 29 = 8 := by kernel_rfl
  rw [hc] at hlen
  match cs, hlen with
  | [c, c0, c1, c2, c3, c4, c5, c6, c7, c8, c9], _ =>
    simp only [hci, hco] at t0 t1 t2 t3
    obtain ⟨kk, e, _, w⟩ := DataW.trod_int Tryd.underlying3 t0
    obtain ⟨cl, e0, _, w0⟩ := DataW.trod_int Tryd.underlying3 t1
    obtain ⟨nu, e1, _, w1⟩ := DataW.trod_int Tryd.underlying3 t2
    obtain ⟨xs, m2, _, hy2, _, hxl, hf⟩ := DataW.trod_struct Tryd.underlying29 t3
    match xs, hxl with
    | [z0, z1, z2, z3, z4, z5], _ =>
      have u0 : DataW.trod enc Tryd.prog W 0 (fun _ => true) true m2 3 (List.take (Tryd.prog.cellsOf 3) (List.drop 0 [c2, c3, c4, c5, c6, c7, c8, c9])) = some z0 := hf 0 _ rfl
      rw [hci] at u0
      have u1 : DataW.trod enc Tryd.prog W 0 (fun _ => true) true m2 3 (List.take (Tryd.prog.cellsOf 3) (List.drop 1 [c2, c3, c4, c5, c6, c7, c8, c9])) = some z1 := hf 1 _ rfl
      rw [hci] at u1
      have u2 : DataW.trod enc Tryd.prog W 0 (fun _ => true) true m2 26 (List.take (Tryd.prog.cellsOf 26) (List.drop 2 [c2, c3, c4, c5, c6, c7, c8, c9])) = some z2 := hf 2 _ rfl
      rw [hcs] at u2
      have u3 : DataW.trod enc Tryd.prog W 0 (fun _ => true) true m2 3 (List.take (Tryd.prog.cellsOf 3) (List.drop 5 [c2, c3, c4, c5, c6, c7, c8, c9])) = some z3 := hf 3 _ rfl
      rw [hci] at u3
      have u4 : DataW.trod enc Tryd.prog W 0 (fun _ => true) true m2 27 (List.take (Tryd.prog.cellsOf 27) (List.drop 6 [c2, c3, c4, c5, c6, c7, c8, c9])) = some z4 := hf 4 _ rfl
      rw [hct] at u4
      have u5 : DataW.trod enc Tryd.prog W 0 (fun _ => true) true m2 3 (List.take (Tryd.prog.cellsOf 3) (List.drop 7 [c2, c3, c4, c5, c6, c7, c8, c9])) = some z5 := hf 5 _ rfl
      rw [hci] at u5
      obtain ⟨kd, e2, _, w2⟩ := DataW.trod_int Tryd.underlying3 u0
      obtain ⟨id, e3, _, w3⟩ := DataW.trod_int Tryd.underlying3 u1
      obtain ⟨v0, v1, v2, m3, _, _, k0, k1, k2⟩ := trod_struct3 Tryd.underlying26 u2
      simp only [hci] at k0 k1 k2
      obtain ⟨s1, e4, _, w4⟩ := DataW.trod_int Tryd.underlying3 k0
      obtain ⟨s2, e5, _, w5⟩ := DataW.trod_int Tryd.underlying3 k1
      obtain ⟨s3, e6, _, w6⟩ := DataW.trod_int Tryd.underlying3 k2
      obtain ⟨po, e7, _, w7⟩ := DataW.trod_int Tryd.underlying3 u3
      obtain ⟨ta, tc, tl, e8, r1, r2, r3, r4, r5, r6⟩ := recs_of_trod (k := 4) (bytes := 32) (code := Tsk.cells) Tryd.underlying27 (by kernel_rfl) (by kernel_rfl) (by omega) Tsk.cells_len (tsk_of_trod (enc := enc) (W := W)) u4
      obtain ⟨at_, e9, _, w9⟩ := DataW.trod_int Tryd.underlying3 u5
      simp at e e0 e1 e2 e3 e4 e5 e6 e7 e8 e9
      subst e e0 e1 e2 e3 e4 e5 e6 e7 e8 e9
      refine ⟨kk, ⟨⟨cl, nu, kd, id, ⟨s1, s2, s3⟩, po, tl, at_⟩, ta, tc⟩, rfl, i64_of_wf w, ⟨⟨i64_of_wf w0, i64_of_wf w1, i64_of_wf w2, i64_of_wf w3, i64_of_wf w4, i64_of_wf w5, i64_of_wf w6, i64_of_wf w7, i64_of_wf w9, r5⟩, r1, r2, r3, r4⟩, fun hw => ?_⟩
      rw [hy] at hw
      simp only [DataW.weights, Tryd.underlying31, List.map_cons, List.map_nil, DataW.weightsEach, List.all_append, Bool.and_eq_true] at hw
      have hw2 := hw.2.2.2.1
      rw [hy2] at hw2
      simp only [DataW.weights, Tryd.underlying29, List.map_cons, List.map_nil, DataW.weightsEach, List.all_append, Bool.and_eq_true] at hw2
      exact (r6 hw2.2.2.2.2.1).1
set_option maxRecDepth 100000 in
theorem open_q {base : Nat} {v : Value} {d : DataW H} {p : List MemPlace} (hval : Value.okWide Tryd.prog W .any base 31 v) (h : DataW.Trod enc Tryd.prog W 0 (fun _ => true) true 31 v d p) :
    ∃ (k : Int) (x : EntM), v = .agg #[.int .i64 k, .int .i64 x.e.cl, .int .i64 x.e.nu, .int .i64 x.e.kd, .int .i64 x.e.id, .int .i64 x.e.srv.k, .int .i64 x.e.srv.q, .int .i64 x.e.srv.t, .int .i64 x.e.po, .slice x.a x.e.tasks.length x.c, .int .i64 x.e.at_] ∧ I64 k ∧ EntI x.e ∧ ((d.weights Tryd.prog 31).all (· ≤ reachBytes) = true → x.ok Any W) := by
  obtain ⟨cs, rfl, hsz⟩ := okWide_struct Tryd.underlying31 hval
  obtain ⟨fuel, hf⟩ := h
  obtain ⟨k, s, hcs, hk, hs, hz⟩ := ask_of_trod _ _ _ hf
  simp [Value.cells] at hcs
  exact ⟨k, s, congrArg Value.agg (Array.ext' hcs), hk, hs.1, fun hw => hs.ok (hz hw)⟩

/-- An answer as it lies. -/
structure Rep where
  cl : Int
  nu : Int
  co : Int
  id : Int
  tree : List UInt8
def RepI (r : Rep) : Prop := I64 r.cl ∧ I64 r.nu ∧ I64 r.co ∧ I64 r.id
set_option maxRecDepth 100000 in
theorem open_rep {base : Nat} {v : Value} {d : DataW H} {p : List MemPlace} (hval : Value.okWide Tryd.prog W .any base 24 v) (h : DataW.Trod enc Tryd.prog W 0 (fun _ => true) true 24 v d p) :
    ∃ (r : Rep) (a : Option Addr) (c : Nat), v = .agg #[.int .i64 r.cl, .int .i64 r.nu, .int .i64 r.co, .int .i64 r.id, .slice a r.tree.length c] ∧ RepI r ∧ BytG W a c r.tree ∧ ((d.weights Tryd.prog 24).all (· ≤ reachBytes) = true → r.tree.length ≤ reachBytes) := by
  obtain ⟨cs, rfl, hsz⟩ := okWide_struct Tryd.underlying24 hval
  obtain ⟨fuel, hf⟩ := h
  obtain ⟨xs, m2, _, hy2, hlen, hxl, hf⟩ := DataW.trod_struct Tryd.underlying24 hf
  have hc : Tryd.prog.cellsOf 24 = 5 := by kernel_rfl
  have hci : Tryd.prog.cellsOf 3 = 1 := by kernel_rfl
  have hct : Tryd.prog.cellsOf 22 = 1 := by kernel_rfl
  rw [hc] at hlen
  obtain ⟨cl⟩ := cs
  simp only [Value.cells] at hlen hf
  match cl, hlen, xs, hxl with
  | [c0, c1, c2, c3, c4], _, [z0, z1, z2, z3, z4], _ =>
    have u0 : DataW.trod enc Tryd.prog W 0 (fun _ => true) true m2 3 (List.take (Tryd.prog.cellsOf 3) (List.drop 0 [c0, c1, c2, c3, c4])) = some z0 := hf 0 _ rfl
    have u1 : DataW.trod enc Tryd.prog W 0 (fun _ => true) true m2 3 (List.take (Tryd.prog.cellsOf 3) (List.drop 1 [c0, c1, c2, c3, c4])) = some z1 := hf 1 _ rfl
    have u2 : DataW.trod enc Tryd.prog W 0 (fun _ => true) true m2 3 (List.take (Tryd.prog.cellsOf 3) (List.drop 2 [c0, c1, c2, c3, c4])) = some z2 := hf 2 _ rfl
    have u3 : DataW.trod enc Tryd.prog W 0 (fun _ => true) true m2 3 (List.take (Tryd.prog.cellsOf 3) (List.drop 3 [c0, c1, c2, c3, c4])) = some z3 := hf 3 _ rfl
    have u4 : DataW.trod enc Tryd.prog W 0 (fun _ => true) true m2 22 (List.take (Tryd.prog.cellsOf 22) (List.drop 4 [c0, c1, c2, c3, c4])) = some z4 := hf 4 _ rfl
    rw [hci] at u0 u1 u2 u3
    rw [hct] at u4
    obtain ⟨k0, e0, _, w0⟩ := DataW.trod_int Tryd.underlying3 u0
    obtain ⟨k1, e1, _, w1⟩ := DataW.trod_int Tryd.underlying3 u1
    obtain ⟨k2, e2, _, w2⟩ := DataW.trod_int Tryd.underlying3 u2
    obtain ⟨k3, e3, _, w3⟩ := DataW.trod_int Tryd.underlying3 u3
    obtain ⟨a, c, l, e4, r1, r2⟩ := bytes_of_trod u4
    simp at e0 e1 e2 e3 e4
    subst e0 e1 e2 e3 e4
    refine ⟨⟨k0, k1, k2, k3, l⟩, a, c, rfl, ⟨i64_of_wf w0, i64_of_wf w1, i64_of_wf w2, i64_of_wf w3⟩, r1, fun hw => ?_⟩
    have hd := congrArg Prod.fst hy2
    dsimp only at hd
    rw [hd] at hw
    simp only [DataW.weights, Tryd.underlying24, List.map_cons, List.map_nil, DataW.weightsEach, List.all_append, Bool.and_eq_true] at hw
    exact r2 hw.2.2.2.2.1
end
end Go.Proofs.YtlgbnjaoadlolaaDoor
