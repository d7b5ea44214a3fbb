/- desk.numbers: numbers read one behind the other. -/
import Derived.Test.YtlgbnjaoadlolaaDoorP20
namespace Go.Proofs.YtlgbnjaoadlolaaDoor
open Go.RowKit

/-- m numbers of at most 2^40: their values, and how many bytes they have. -/
def numsR : Nat → List UInt8 → Option (List Nat × Nat)
  | 0, _ => some ([], 0)
  | m + 1, l => match numR l with
    | none => none
    | some q => if q.1 ≤ 1099511627776 then (numsR m (l.drop q.2)).map fun r => (q.1 :: r.1, q.2 + r.2) else none
theorem numsR_succ (m : Nat) (l : List UInt8) : numsR (m + 1) l = match numR l with
    | none => none
    | some q => if q.1 ≤ 1099511627776 then (numsR m (l.drop q.2)).map fun r => (q.1 :: r.1, q.2 + r.2) else none := rfl
theorem numsR_put : ∀ (ns : List Nat) (r : List UInt8), (∀ n ∈ ns, n ≤ 1099511627776) → numsR ns.length (ns.flatMap numB ++ r) = some (ns, (ns.flatMap numB).length)
  | [], _, _ => rfl
  | n :: ns, r, h => by
    have hn := h n (List.mem_cons_self ..)
    have hi := numsR_put ns r (fun x hx => h x (List.mem_cons_of_mem _ hx))
    rw [List.flatMap_cons, List.append_assoc, List.length_cons]
    rw [numsR_succ, numR_put (by omega)]
    show (if n ≤ 1099511627776 then (numsR ns.length ((numB n ++ (ns.flatMap numB ++ r)).drop (numB n).length)).map _ else none) = _
    rw [if_pos hn, List.drop_left, hi, List.length_append]
    rfl
theorem numsR_get : ∀ (m : Nat) (l : List UInt8) (ns : List Nat) (k : Nat), numsR m l = some (ns, k) → ns.length = m ∧ (∀ n ∈ ns, n ≤ 1099511627776) ∧ l = ns.flatMap numB ++ l.drop k ∧ k = (ns.flatMap numB).length
  | 0, l, ns, k, h => by cases h; exact ⟨rfl, (fun _ h => by cases h), rfl, rfl⟩
  | m + 1, l, ns, k, h => by
    rw [numsR_succ] at h
    split at h
    · cases h
    · rename_i q hq
      split at h
      · rename_i hle
        obtain ⟨x, hx, he⟩ := Option.map_eq_some_iff.1 h
        cases he
        obtain ⟨h1, h2, h3, h4⟩ := numsR_get m (l.drop q.2) x.1 x.2 hx
        obtain ⟨g1, g2, g3⟩ := numR_get (v := q.1) (k := q.2) hq
        refine ⟨by simp [h1], fun n hn => ?_, ?_, ?_⟩
        · rcases List.mem_cons.1 hn with rfl | hn
          · exact hle
          · exact h2 n hn
        · rw [List.flatMap_cons, List.append_assoc, ← List.drop_drop, ← h3]
          exact g1
        · rw [List.flatMap_cons, List.length_append, ← g2, ← h4]
      · cases h
/-- Numbers laid over a row's first cells. -/
def over (cs : Array Value) (ns : List Nat) : Array Value := (ns.map (fun (n : Nat) => Value.int .i64 (n : Int)) ++ cs.toList.drop ns.length).toArray
theorem over_nil (cs : Array Value) : over cs [] = cs := by simp [over]
theorem over_size {cs : Array Value} {ns : List Nat} (h : ns.length ≤ cs.size) : (over cs ns).size = cs.size := by simp [over]; omega
theorem over_set {cs : Array Value} {ns : List Nat} (h : ns.length < cs.size) (n : Nat) : (over cs ns).setIfInBounds ns.length (.int .i64 (n : Int)) = over cs (ns ++ [n]) := by
  unfold over
  rw [List.setIfInBounds_toArray, List.set_append_right _ _ (by simp)]
  congr 1
  rw [List.length_map, Nat.sub_self, List.drop_eq_getElem_cons (by simpa using h), List.set_cons_zero]
  simp
theorem over_get {cs : Array Value} {ns : List Nat} {i : Nat} (h : ns.length ≤ i) : (over cs ns)[i]? = cs[i]? := by
  unfold over
  rw [List.getElem?_toArray, List.getElem?_append_right (by simpa using h), List.getElem?_drop, List.length_map, show ns.length + (i - ns.length) = i by omega]
  simp
/-- One number further. -/
theorem numsR_step {m : Nat} {l : List UInt8} {ns : List Nat} {k : Nat} (hi : ns.length < m) (h : numsR m l = (numsR (m - ns.length) (l.drop k)).map fun r => (ns ++ r.1, k + r.2)) :
    (numR (l.drop k) = none → numsR m l = none) ∧ (∀ v j, numR (l.drop k) = some (v, j) → 1099511627776 < v → numsR m l = none) ∧
    (∀ v j, numR (l.drop k) = some (v, j) → v ≤ 1099511627776 → numsR m l = (numsR (m - (ns ++ [v]).length) (l.drop (k + j))).map fun r => ((ns ++ [v]) ++ r.1, (k + j) + r.2)) := by
  have hm : m - ns.length = (m - (ns.length + 1)) + 1 := by omega
  rw [hm, numsR_succ] at h
  refine ⟨fun h1 => ?_, fun v j h1 h2 => ?_, fun v j h1 h2 => ?_⟩
  · rw [h1] at h; exact h
  · rw [h1] at h
    dsimp only at h
    rw [if_neg (by omega)] at h
    exact h
  · rw [h1] at h
    dsimp only at h
    rw [if_pos h2, Option.map_map] at h
    rw [h, List.length_append, List.drop_drop]
    congr 1
    funext r
    show (_, _) = (_, _)
    rw [List.append_assoc, Nat.add_assoc]
    rfl
theorem numsR_done {m : Nat} {l : List UInt8} {ns : List Nat} {k : Nat} (hi : ns.length = m) (h : numsR m l = (numsR (m - ns.length) (l.drop k)).map fun r => (ns ++ r.1, k + r.2)) : numsR m l = some (ns, k) := by
  rw [hi, Nat.sub_self] at h
  rw [h]
  show some (_, _) = _
  rw [List.append_nil, Nat.add_zero]

/-- What reading numbers into a variable's cells answers. -/
def NumsP (E : Nat → Addr) (m : Nat) (p : List UInt8) (at_ rb ab : Nat) (cs : Array Value) (t : TypeId) (w : World) (e : Ending) (w' : World) : Prop := GrX [rb, ab] w w' ∧ match numsR m (p.drop at_) with
  | some (ns, k) => e = .returned .nilIface ∧ RdAt (· ≠ ab) w' rb p (at_ + k) ∧ Blk w' ab (over cs ns) t
  | none => e = .returned (Value.iface 137 (.pointer (some (E 1))))
set_option maxRecDepth 100000 in
set_option maxHeartbeats 3200000 in
theorem numbers_any {G : List Nat} {E : Nat → Addr} (W w : World) (hE : EAt G E W) (i1 : 1 ∈ G) (gW : Gr W w) (rb ab tb m : Nat) (p : List UInt8) (at_ : Nat) (cs : Array Value) (t : TypeId) (h : RdAt (· ≠ ab) w rb p at_) (hrW : W.heap.size ≤ rb) (haW : W.heap.size ≤ ab) (hra : rb ≠ ab) (hrt : tb ≠ rb) (hat : tb ≠ ab) (htl : tb < w.heap.size)
    (hb : Blk w ab cs t) (hm : m ≤ cs.size) (hm2 : m ≤ 100) (hT : ∀ j, j < m → w.cell? ⟨tb, j, none⟩ = some (.pointer (some ⟨ab, j, none⟩))) :
    Calls Tryd.prog 31 #[.pointer (some ⟨rb, 0, none⟩), .slice (some ⟨tb, 0, none⟩) m m] w (NumsP E m p at_ rb ab cs t w) := by
  have h0 : numsR m (p.drop at_) = (numsR (m - ([] : List Nat).length) ((p.drop at_).drop 0)).map fun r => ([] ++ r.1, 0 + r.2) := by
    rw [List.length_nil, Nat.sub_zero, List.drop_zero]
    cases numsR m (p.drop at_) with
    | none => rfl
    | some q => show some q = some (_, _); rw [Nat.zero_add]; rfl
  replace hT := Lib.hid hT
  go_enter Tryd.func31, Tryd.ntmps31
  go_wp2_with fail
  go_loopw [11] (fun iv wr => ∃ (i k : Nat) (ns : List Nat), iv = .int .i64 i ∧ i ≤ m ∧ Hid (ns.length = i) ∧ Hid (numsR m (p.drop at_) = (numsR (m - ns.length) ((p.drop at_).drop k)).map fun r => (ns ++ r.1, k + r.2)) ∧ RdAt (· ≠ ab) wr rb p (at_ + k) ∧ Blk wr ab (over cs ns) t ∧ GrX [rb, ab] w wr) (fun iv _ => m - (intOf iv).toNat)
  case atStart => exact ⟨0, 0, [], rfl, Nat.zero_le _, Lib.hid rfl, Lib.hid h0, h, by rw [over_nil]; exact hb, GrX.refl _ _⟩
  case round =>
    obtain ⟨i, k, ns, rfl, him, hns, heq, hrd, hbl, hg⟩ := hrel
    have gwr : Gr W wr := GrX.all gW hg (fun x hx => by simp at hx; rcases hx with rfl | rfl <;> assumption)
    clear h0
    by_cases hi : i < m
    · obtain ⟨s1, s2, s3⟩ := numsR_step (by rw [hns.out]; exact hi) heq.out
      have hdd : (p.drop at_).drop k = p.drop (at_ + k) := List.drop_drop
      rw [hdd] at s1 s2 s3
      have hc := hT.out i hi
      rw [← hg.cell htl (by simp; exact ⟨hrt, hat⟩)] at hc
      have bad : (∀ v j, numR (p.drop (at_ + k)) = some (v, j) → (1099511627776 : Int) < v) → numsR m (p.drop at_) = none → True := fun _ _ => trivial
      by_cases hgood : ∃ v j, numR (p.drop (at_ + k)) = some (v, j) ∧ v ≤ 1099511627776
      · obtain ⟨v, j, hq, hv⟩ := hgood
        have s4 := s3 v j hq hv
        have hn := rnum_yes wr rb p (at_ + k) 1099511627776 hrd hq (by omega)
        have hsz : i < (over cs ns).size := by rw [over_size (by rw [hns.out]; omega)]; omega
        clear s1 s2 s3 bad hdd
        replace s4 := Lib.hid s4
        replace hn := Lib.hid hn
        replace hq := Lib.hid hq
        replace hbl := Lib.hid hbl
        replace hsz := Lib.hid hsz
        go_wp2_with fail
        refine hn.out.mono ?_
        rintro e w1 ⟨rfl, hrd1, hg1⟩
        have hb1 := hbl.out.grx hg1 (by simp; exact fun e => hra e.symm)
        have cA := hb1.cell (i := i) (Array.getElem?_eq_getElem hsz.out)
        have fA := hb1.free i
        have hb2 := hb1.set i (.int .i64 v)
        rw [show (over cs ns).setIfInBounds i (.int .i64 (v : Int)) = over cs (ns ++ [v]) by have := over_set (cs := cs) (ns := ns) (by rw [hns.out]; omega) v; rwa [hns.out] at this] at hb2
        replace hb1 := Lib.hid hb1
        replace hb2 := Lib.hid hb2
        replace hrd1 := Lib.hid hrd1
        go_wp2_with fail
        go_roundw
        case rel =>
          refine ⟨i + 1, k + j, ns ++ [v], by go_num, by omega, Lib.hid (by rw [List.length_append, hns.out]; rfl), s4, ?_, hb2.out, (hg.trans (hg1.mono (fun x hx => by simp at hx; simp [hx]))).set (.inl (by simp)) _⟩
          have hr3 := hrd1.out.grx (S := [ab]) ((GrX.refl _ _).set (p := ⟨ab, i, none⟩) (.inl (by simp)) (.int .i64 v)) (by simpa using hra) (fun b hb => by simpa using hb)
          rw [← Nat.add_assoc]
          exact hr3
        case measure => simp [intOf]; omega
      · have hnone : numsR m (p.drop at_) = none := by
          cases hq : numR (p.drop (at_ + k)) with
          | none => exact s1 hq
          | some q => exact s2 q.1 q.2 hq (by
              have : ¬ q.1 ≤ 1099511627776 := fun hle => hgood ⟨q.1, q.2, hq, hle⟩
              omega)
        have hn := rnum_no wr rb p (at_ + k) 1099511627776 hrd (hE.gr gwr) i1 (fun v j hq => by
          have : ¬ v ≤ 1099511627776 := fun hle => hgood ⟨v, j, hq, hle⟩
          omega)
        clear s1 s2 s3 bad hdd hgood
        replace hnone := Lib.hid hnone
        replace hn := Lib.hid hn
        replace hbl := Lib.hid hbl
        go_wp2_with fail
        refine hn.out.mono ?_
        rintro e w1 ⟨rfl, hg1⟩
        go_wp2_with fail
        go_ret
        exact ⟨hg.gr hg1, by rw [hnone.out]; rfl⟩
    · obtain rfl : i = m := by omega
      have hd := numsR_done hns.out heq.out
      replace hd := Lib.hid hd
      replace hbl := Lib.hid hbl
      go_wp2_with fail
      go_ret
      exact ⟨hg, by rw [hd.out]; exact ⟨rfl, hrd, hbl.out⟩⟩
end Go.Proofs.YtlgbnjaoadlolaaDoor
