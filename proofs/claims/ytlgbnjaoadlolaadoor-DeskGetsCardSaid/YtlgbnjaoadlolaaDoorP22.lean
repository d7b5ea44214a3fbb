/- wire.Reader.Bytes refused; NewReader; desk.opened of a frame and of more than a frame. desk.numbers: numbers read one behind the other. desk.GetReply. -/
import Derived.Test.YtlgbnjaoadlolaaDoorP19
namespace Go.Proofs.YtlgbnjaoadlolaaDoor
open Go.RowKit

set_option maxRecDepth 100000 in
set_option maxHeartbeats 1600000 in
theorem rbytes_no {K : Nat → Prop} {G : List Nat} {E : Nat → Addr} (w : World) (rb : Nat) (p : List UInt8) (at_ : Nat) (most : Int) (h : RdAt K w rb p at_) (hE : EAt G E w) (i1 : 1 ∈ G) (hq : ∀ v k, numR (p.drop at_) = some (v, k) → most < v ∨ p.length - (at_ + k) < v) :
    Calls Tryd.prog 32 #[.pointer (some ⟨rb, 0, none⟩), .int .i64 most] w fun e w' => e = .returned (.tuple #[.slice none 0 0, (Value.iface 137 (.pointer (some (E 1))))]) ∧ Gr w w' := by
  have he := hE.c0 i1
  have h0 := h
  obtain ⟨a, c, hb, hr, hcn, hax, hat, hpc, hpm⟩ := h
  have c0 := hb.cell (i := 0) (v := .slice a p.length c) rfl
  have c1 := hb.cell (i := 1) (v := .int .i64 at_) rfl
  have hz := hb.lt
  replace hb := Lib.hid hb
  replace hax := Lib.hid hax
  replace hcn := Lib.hid hcn
  replace hr := Lib.hid hr
  cases hn : numR (p.drop at_) with
  | none =>
    have hc := number_no w rb p at_ h0 hn
    replace hc := Lib.hid hc
    replace hn := Lib.hid hn
    replace hq := Lib.hid hq
    go_enter Tryd.func32, Tryd.ntmps32
    go_wp2_with fail
    refine hc.out.mono ?_
    rintro e w1 ⟨x, y, rfl, rfl⟩
    go_upto_region 3 with fail
    go_region
    go_wp2_with fail
    go_ret2
    exact ⟨rfl, (by repeat (first | exact Gr.refl _ | apply Gr.alloc | apply Gr.drew | apply Gr.drewN | (refine Gr.setCell ?_ (by first | (simp; done) | (simp; omega)) _) | (refine Gr.trans ?_ (by assumption))))⟩
  | some q =>
    obtain ⟨v, k⟩ := q
    have hkb := (numR_bd hn).2.2.2
    rw [List.length_drop] at hkb
    dsimp only at hkb
    have hm := hq v k hn
    have hc := number_yes w rb p at_ h0 hn
    obtain ⟨s, hs⟩ : ∃ s, at_ + k = s := ⟨_, rfl⟩
    rw [hs] at hc hm
    have hsp : s ≤ p.length := by omega
    replace hs := Lib.hid hs
    replace hc := Lib.hid hc
    replace hn := Lib.hid hn
    replace hq := Lib.hid hq
    by_cases hmv : most < v
    · replace hm := Lib.hid hm
      go_enter Tryd.func32, Tryd.ntmps32
      go_wp2_with fail
      refine (hc.out).mono ?_
      rintro e wa ⟨rfl, rfl⟩
      go_upto_region 3 with fail
      go_region
      go_wp2_with fail
      go_ret2
      exact ⟨rfl, (by repeat (first | exact Gr.refl _ | apply Gr.alloc | apply Gr.drew | apply Gr.drewN | (refine Gr.setCell ?_ (by first | (simp; done) | (simp; omega)) _) | (refine Gr.trans ?_ (by assumption))))⟩
    · have hlt : (p.length : Int) - s < v := by omega
      replace hm := Lib.hid hm
      go_enter Tryd.func32, Tryd.ntmps32
      go_wp2_with fail
      refine (hc.out).mono ?_
      rintro e wa ⟨rfl, rfl⟩
      go_upto_region 3 with fail
      go_region
      go_wp2_with fail
      go_ret2
      exact ⟨rfl, (by repeat (first | exact Gr.refl _ | apply Gr.alloc | apply Gr.drew | apply Gr.drewN | (refine Gr.setCell ?_ (by first | (simp; done) | (simp; omega)) _) | (refine Gr.trans ?_ (by assumption))))⟩
set_option maxHeartbeats 1600000 in
theorem newReader_any (w : World) (a : Option Addr) (c : Nat) (l : List UInt8) (h : BytesAt w a l) (hc : a = none → c = 0) (hm : l.length ≤ 100000) :
    Calls Tryd.prog 52 #[.slice a l.length c] w fun e w' => ∃ rb, e = .returned (.pointer (some ⟨rb, 0, none⟩)) ∧ RdAt (fun b => b < w'.heap.size) w' rb l 0 ∧ w.heap.size ≤ rb ∧ Gr w w' := by
  have hcl := cloneB_any w a c l h hc (by omega)
  replace hcl := Lib.hid hcl
  replace h := Lib.hid h
  replace hc := Lib.hid hc
  go_enter Tryd.func52, Tryd.ntmps52
  go_wp2_with fail
  refine hcl.out.mono ?_
  rintro e w1 ⟨a1, c1, rfl, h1⟩
  have hx := h1.x
  have g := h1.2.2.2.2
  replace h1 := Lib.hid h1
  go_wp2_with fail
  go_ret
  refine ⟨w1.heap.size, rfl, ⟨a1, c1, Blk.new w1 _ _, hx.2.1.gr ((Gr.refl w1).alloc _), hx.2.2.1, fun x hxx => ?_, Nat.zero_le _, hx.cap, hm⟩, g.size, g.alloc _⟩
  have := hx.lt hxx
  exact ⟨by omega, by simp; omega⟩
set_option maxRecDepth 100000 in
set_option maxHeartbeats 1600000 in
/-- A frame that is whole: a reader of its payload. -/
theorem opened_yes (w : World) (b off c : Nat) (L : List UInt8) (hS : BytesAt w (some ⟨b, off, none⟩) (frameB L)) (hL : L.length ≤ 32768) (hc : (frameB L).length ≤ c) :
    Calls Tryd.prog 30 #[.slice (some ⟨b, off, none⟩) (frameB L).length c] w fun e w' => ∃ rb, e = .returned (.tuple #[.pointer (some ⟨rb, 0, none⟩), .nilIface]) ∧ RdAt (fun b => b < w'.heap.size) w' rb L 0 ∧ w.heap.size ≤ rb ∧ Gr w w' := by
  have hfl := frameB_len L
  have hR : Calls Tryd.prog 51 #[.slice (some ⟨b, off, none⟩) (frameB L).length c] w fun e w' => ∃ a' c', e = .returned (.tuple #[.slice a' L.length c', .int .i64 ((L.length : Int) + 8), .nilIface]) ∧ Own w w' a' c' L := by
    obtain ⟨x0, x1, x2, x3, hx⟩ := four_of (le32_len L.length)
    have hxn : un32 [x0, x1, x2, x3] = L.length := by
      have := un32_le32 (n := L.length) (by omega) []
      rwa [hx, List.append_nil] at this
    obtain ⟨A, hA⟩ : ∃ A, A = le32 L.length ++ L := ⟨_, rfl⟩
    have hAl : A.length = 4 + L.length := by rw [hA, List.length_append, le32_len]
    obtain ⟨y0, y1, y2, y3, hy⟩ := four_of (le32_len (crc A))
    have hyn : un32 [y0, y1, y2, y3] = crc A := by
      have := un32_le32 (n := crc A) (crc_lt A) []
      rwa [hy, List.append_nil] at this
    have hF : frameB L = A ++ le32 (crc A) := by unfold frameB; rw [← hA]
    have hF2 : frameB L = x0 :: x1 :: x2 :: x3 :: (L ++ le32 (crc A)) := by rw [hF, hA, hx]; rfl
    have hd4 : ((frameB L).drop 4).take L.length = L := by
      rw [hF2]
      exact List.take_left' rfl
    have := read_good w b off c (frameB L) hS x0 x1 x2 x3 y0 y1 y2 y3 _ [] hF2 L.length hxn hL (by omega) hc (by unfold maxLen; omega) (by rw [hF, ← hy]; exact List.drop_left' hAl) (by rw [hF, List.take_left' hAl, hyn])
    rwa [hd4] at this
  have hnr := fun w1 a1 c1 (ho : Own w w1 a1 c1 L) => newReader_any w1 a1 c1 L ho.2.1 ho.2.2.1 (by omega)
  obtain ⟨n, hn⟩ : ∃ n, L.length = n := ⟨_, rfl⟩
  have hfn : (frameB L).length = n + 8 := by omega
  rw [hn] at hR hnr
  rw [hfn] at hR ⊢
  have hnb : n ≤ 32768 := by omega
  replace hR := Lib.hid hR
  replace hnr := Lib.hid hnr
  replace hn := Lib.hid hn
  replace hfn := Lib.hid hfn
  replace hfl := Lib.hid hfl
  replace hS := Lib.hid hS
  have e1 : ((n : Int) + 8 == 0) = false := beq_eq_false_iff_ne.2 (by omega)
  go_enter Tryd.func30, Tryd.ntmps30
  go_wp2_with fail
  refine hR.out.mono ?_
  rintro e w1 ⟨a1, c1, rfl, h1⟩
  replace h1 := Lib.hid h1
  go_wp2_with fail
  refine (hnr.out w1 a1 c1 h1.out).mono ?_
  rintro e w2 ⟨rb, rfl, h2, h3, g2⟩
  have g1 := h1.out.2.2.2.2
  replace h2 := Lib.hid h2
  go_wp2_with fail
  go_ret2
  exact ⟨rb, rfl, h2.out, Nat.le_trans g1.size h3, g1.trans g2⟩


/-- m numbers of at most 2^40: their values, and how many bytes they have. -/
def numsR : Nat → List UInt8 → Option (List Nat × Nat)
  | 0, _ => some ([], 0)
  | m + 1, l => match numR l with
    | none => none
    | some q => if q.1 ≤ 1099511627776 then (numsR m (l.drop q.2)).map fun r => (q.1 :: r.1, q.2 + r.2) else none
theorem numsR_succ (m : Nat) (l : List UInt8) : numsR (m + 1) l = match numR l with
    | none => none
    | some q => if q.1 ≤ 1099511627776 then (numsR m (l.drop q.2)).map fun r => (q.1 :: r.1, q.2 + r.2) else none := rfl
theorem numsR_put : ∀ (ns : List Nat) (r : List UInt8), (∀ n ∈ ns, n ≤ 1099511627776) → numsR ns.length (ns.flatMap numB ++ r) = some (ns, (ns.flatMap numB).length)
  | [], _, _ => rfl
  | n :: ns, r, h => by
    have hn := h n (List.mem_cons_self ..)
    have hi := numsR_put ns r (fun x hx => h x (List.mem_cons_of_mem _ hx))
    rw [List.flatMap_cons, List.append_assoc, List.length_cons]
    rw [numsR_succ, numR_put (by omega)]
    show (if n ≤ 1099511627776 then (numsR ns.length ((numB n ++ (ns.flatMap numB ++ r)).drop (numB n).length)).map _ else none) = _
    rw [if_pos hn, List.drop_left, hi, List.length_append]
    rfl
theorem numsR_get : ∀ (m : Nat) (l : List UInt8) (ns : List Nat) (k : Nat), numsR m l = some (ns, k) → ns.length = m ∧ (∀ n ∈ ns, n ≤ 1099511627776) ∧ l = ns.flatMap numB ++ l.drop k ∧ k = (ns.flatMap numB).length
  | 0, l, ns, k, h => by cases h; exact ⟨rfl, (fun _ h => by cases h), rfl, rfl⟩
  | m + 1, l, ns, k, h => by
    rw [numsR_succ] at h
    split at h
    · cases h
    · rename_i q hq
      split at h
      · rename_i hle
        obtain ⟨x, hx, he⟩ := Option.map_eq_some_iff.1 h
        cases he
        obtain ⟨h1, h2, h3, h4⟩ := numsR_get m (l.drop q.2) x.1 x.2 hx
        obtain ⟨g1, g2, g3⟩ := numR_get (v := q.1) (k := q.2) hq
        refine ⟨by simp [h1], fun n hn => ?_, ?_, ?_⟩
        · rcases List.mem_cons.1 hn with rfl | hn
          · exact hle
          · exact h2 n hn
        · rw [List.flatMap_cons, List.append_assoc, ← List.drop_drop, ← h3]
          exact g1
        · rw [List.flatMap_cons, List.length_append, ← g2, ← h4]
      · cases h
/-- Numbers laid over a row's first cells. -/
def over (cs : Array Value) (ns : List Nat) : Array Value := (ns.map (fun (n : Nat) => Value.int .i64 (n : Int)) ++ cs.toList.drop ns.length).toArray
theorem over_nil (cs : Array Value) : over cs [] = cs := by simp [over]
theorem over_size {cs : Array Value} {ns : List Nat} (h : ns.length ≤ cs.size) : (over cs ns).size = cs.size := by simp [over]; omega
theorem over_set {cs : Array Value} {ns : List Nat} (h : ns.length < cs.size) (n : Nat) : (over cs ns).setIfInBounds ns.length (.int .i64 (n : Int)) = over cs (ns ++ [n]) := by
  unfold over
  rw [List.setIfInBounds_toArray, List.set_append_right _ _ (by simp)]
  congr 1
  rw [List.length_map, Nat.sub_self, List.drop_eq_getElem_cons (by simpa using h), List.set_cons_zero]
  simp
theorem over_get {cs : Array Value} {ns : List Nat} {i : Nat} (h : ns.length ≤ i) : (over cs ns)[i]? = cs[i]? := by
  unfold over
  rw [List.getElem?_toArray, List.getElem?_append_right (by simpa using h), List.getElem?_drop, List.length_map, show ns.length + (i - ns.length) = i by omega]
  simp
/-- One number further. -/
theorem numsR_step {m : Nat} {l : List UInt8} {ns : List Nat} {k : Nat} (hi : ns.length < m) (h : numsR m l = (numsR (m - ns.length) (l.drop k)).map fun r => (ns ++ r.1, k + r.2)) :
    (numR (l.drop k) = none → numsR m l = none) ∧ (∀ v j, numR (l.drop k) = some (v, j) → 1099511627776 < v → numsR m l = none) ∧
    (∀ v j, numR (l.drop k) = some (v, j) → v ≤ 1099511627776 → numsR m l = (numsR (m - (ns ++ [v]).length) (l.drop (k + j))).map fun r => ((ns ++ [v]) ++ r.1, (k + j) + r.2)) := by
  have hm : m - ns.length = (m - (ns.length + 1)) + 1 := by omega
  rw [hm, numsR_succ] at h
  refine ⟨fun h1 => ?_, fun v j h1 h2 => ?_, fun v j h1 h2 => ?_⟩
  · rw [h1] at h; exact h
  · rw [h1] at h
    dsimp only at h
    rw [if_neg (by omega)] at h
    exact h
  · rw [h1] at h
    dsimp only at h
    rw [if_pos h2, Option.map_map] at h
    rw [h, List.length_append, List.drop_drop]
    congr 1
    funext r
    show (_, _) = (_, _)
    rw [List.append_assoc, Nat.add_assoc]
    rfl
theorem numsR_done {m : Nat} {l : List UInt8} {ns : List Nat} {k : Nat} (hi : ns.length = m) (h : numsR m l = (numsR (m - ns.length) (l.drop k)).map fun r => (ns ++ r.1, k + r.2)) : numsR m l = some (ns, k) := by
  rw [hi, Nat.sub_self] at h
  rw [h]
  show some (_, _) = _
  rw [List.append_nil, Nat.add_zero]

/-- What reading numbers into a variable's cells answers. -/
def NumsP (E : Nat → Addr) (m : Nat) (p : List UInt8) (at_ rb ab : Nat) (cs : Array Value) (t : TypeId) (w : World) (e : Ending) (w' : World) : Prop := GrX [rb, ab] w w' ∧ match numsR m (p.drop at_) with
  | some (ns, k) => e = .returned .nilIface ∧ RdAt (· ≠ ab) w' rb p (at_ + k) ∧ Blk w' ab (over cs ns) t
  | none => e = .returned (Value.iface 137 (.pointer (some (E 1))))
set_option maxRecDepth 100000 in
set_option maxHeartbeats 3200000 in
theorem numbers_any {G : List Nat} {E : Nat → Addr} (W w : World) (hE : EAt G E W) (i1 : 1 ∈ G) (gW : Gr W w) (rb ab tb m : Nat) (p : List UInt8) (at_ : Nat) (cs : Array Value) (t : TypeId) (h : RdAt (· ≠ ab) w rb p at_) (hrW : W.heap.size ≤ rb) (haW : W.heap.size ≤ ab) (hra : rb ≠ ab) (hrt : tb ≠ rb) (hat : tb ≠ ab) (htl : tb < w.heap.size)
    (hb : Blk w ab cs t) (hm : m ≤ cs.size) (hm2 : m ≤ 100) (hT : ∀ j, j < m → w.cell? ⟨tb, j, none⟩ = some (.pointer (some ⟨ab, j, none⟩))) :
    Calls Tryd.prog 31 #[.pointer (some ⟨rb, 0, none⟩), .slice (some ⟨tb, 0, none⟩) m m] w (NumsP E m p at_ rb ab cs t w) := by
  have h0 : numsR m (p.drop at_) = (numsR (m - ([] : List Nat).length) ((p.drop at_).drop 0)).map fun r => ([] ++ r.1, 0 + r.2) := by
    rw [List.length_nil, Nat.sub_zero, List.drop_zero]
    cases numsR m (p.drop at_) with
    | none => rfl
    | some q => show some q = some (_, _); rw [Nat.zero_add]; rfl
  replace hT := Lib.hid hT
  go_enter Tryd.func31, Tryd.ntmps31
  go_wp2_with fail
  go_loopw [11] (fun iv wr => ∃ (i k : Nat) (ns : List Nat), iv = .int .i64 i ∧ i ≤ m ∧ Hid (ns.length = i) ∧ Hid (numsR m (p.drop at_) = (numsR (m - ns.length) ((p.drop at_).drop k)).map fun r => (ns ++ r.1, k + r.2)) ∧ RdAt (· ≠ ab) wr rb p (at_ + k) ∧ Blk wr ab (over cs ns) t ∧ GrX [rb, ab] w wr) (fun iv _ => m - (intOf iv).toNat)
  case atStart => exact ⟨0, 0, [], rfl, Nat.zero_le _, Lib.hid rfl, Lib.hid h0, h, by rw [over_nil]; exact hb, GrX.refl _ _⟩
  case round =>
    obtain ⟨i, k, ns, rfl, him, hns, heq, hrd, hbl, hg⟩ := hrel
    have gwr : Gr W wr := GrX.all gW hg (fun x hx => by simp at hx; rcases hx with rfl | rfl <;> assumption)
    clear h0
    by_cases hi : i < m
    · obtain ⟨s1, s2, s3⟩ := numsR_step (by rw [hns.out]; exact hi) heq.out
      have hdd : (p.drop at_).drop k = p.drop (at_ + k) := List.drop_drop
      rw [hdd] at s1 s2 s3
      have hc := hT.out i hi
      rw [← hg.cell htl (by simp; exact ⟨hrt, hat⟩)] at hc
      have bad : (∀ v j, numR (p.drop (at_ + k)) = some (v, j) → (1099511627776 : Int) < v) → numsR m (p.drop at_) = none → True := fun _ _ => trivial
      by_cases hgood : ∃ v j, numR (p.drop (at_ + k)) = some (v, j) ∧ v ≤ 1099511627776
      · obtain ⟨v, j, hq, hv⟩ := hgood
        have s4 := s3 v j hq hv
        have hn := rnum_yes wr rb p (at_ + k) 1099511627776 hrd hq (by omega)
        have hsz : i < (over cs ns).size := by rw [over_size (by rw [hns.out]; omega)]; omega
        clear s1 s2 s3 bad hdd
        replace s4 := Lib.hid s4
        replace hn := Lib.hid hn
        replace hq := Lib.hid hq
        replace hbl := Lib.hid hbl
        replace hsz := Lib.hid hsz
        go_wp2_with fail
        refine hn.out.mono ?_
        rintro e w1 ⟨rfl, hrd1, hg1⟩
        have hb1 := hbl.out.grx hg1 (by simp; exact fun e => hra e.symm)
        have cA := hb1.cell (i := i) (Array.getElem?_eq_getElem hsz.out)
        have fA := hb1.free i
        have hb2 := hb1.set i (.int .i64 v)
        rw [show (over cs ns).setIfInBounds i (.int .i64 (v : Int)) = over cs (ns ++ [v]) by have := over_set (cs := cs) (ns := ns) (by rw [hns.out]; omega) v; rwa [hns.out] at this] at hb2
        replace hb1 := Lib.hid hb1
        replace hb2 := Lib.hid hb2
        replace hrd1 := Lib.hid hrd1
        go_wp2_with fail
        go_roundw
        case rel =>
          refine ⟨i + 1, k + j, ns ++ [v], by go_num, by omega, Lib.hid (by rw [List.length_append, hns.out]; rfl), s4, ?_, hb2.out, (hg.trans (hg1.mono (fun x hx => by simp at hx; simp [hx]))).set (.inl (by simp)) _⟩
          have hr3 := hrd1.out.grx (S := [ab]) ((GrX.refl _ _).set (p := ⟨ab, i, none⟩) (.inl (by simp)) (.int .i64 v)) (by simpa using hra) (fun b hb => by simpa using hb)
          rw [← Nat.add_assoc]
          exact hr3
        case measure => simp [intOf]; omega
      · have hnone : numsR m (p.drop at_) = none := by
          cases hq : numR (p.drop (at_ + k)) with
          | none => exact s1 hq
          | some q => exact s2 q.1 q.2 hq (by
              have : ¬ q.1 ≤ 1099511627776 := fun hle => hgood ⟨q.1, q.2, hq, hle⟩
              omega)
        have hn := rnum_no wr rb p (at_ + k) 1099511627776 hrd (hE.gr gwr) i1 (fun v j hq => by
          have : ¬ v ≤ 1099511627776 := fun hle => hgood ⟨v, j, hq, hle⟩
          omega)
        clear s1 s2 s3 bad hdd hgood
        replace hnone := Lib.hid hnone
        replace hn := Lib.hid hn
        replace hbl := Lib.hid hbl
        go_wp2_with fail
        refine hn.out.mono ?_
        rintro e w1 ⟨rfl, hg1⟩
        go_wp2_with fail
        go_ret
        exact ⟨hg.gr hg1, by rw [hnone.out]; rfl⟩
    · obtain rfl : i = m := by omega
      have hd := numsR_done hns.out heq.out
      replace hd := Lib.hid hd
      replace hbl := Lib.hid hbl
      go_wp2_with fail
      go_ret
      exact ⟨hg, by rw [hd.out]; exact ⟨rfl, hrd, hbl.out⟩⟩


theorem numbers_yes {G : List Nat} {E : Nat → Addr} (W w : World) (hE : EAt G E W) (i1 : 1 ∈ G) (gW : Gr W w) (rb ab tb m : Nat) (p : List UInt8) (at_ : Nat) (cs : Array Value) (t : TypeId) (h : RdAt (· ≠ ab) w rb p at_) (hrW : W.heap.size ≤ rb) (haW : W.heap.size ≤ ab) (hra : rb ≠ ab) (hrt : tb ≠ rb) (hat : tb ≠ ab) (htl : tb < w.heap.size)
    (hb : Blk w ab cs t) (hm : m ≤ cs.size) (hm2 : m ≤ 100) (hT : ∀ j, j < m → w.cell? ⟨tb, j, none⟩ = some (.pointer (some ⟨ab, j, none⟩))) {ns : List Nat} {k : Nat} (hn : numsR m (p.drop at_) = some (ns, k)) :
    Calls Tryd.prog 31 #[.pointer (some ⟨rb, 0, none⟩), .slice (some ⟨tb, 0, none⟩) m m] w fun e w' => e = .returned .nilIface ∧ GrX [rb, ab] w w' ∧ RdAt (· ≠ ab) w' rb p (at_ + k) ∧ Blk w' ab (over cs ns) t :=
  (numbers_any W w hE i1 gW rb ab tb m p at_ cs t h hrW haW hra hrt hat htl hb hm hm2 hT).mono fun e w' ⟨h1, h2⟩ => by rw [hn] at h2; exact ⟨h2.1, h1, h2.2⟩
theorem numbers_no {G : List Nat} {E : Nat → Addr} (W w : World) (hE : EAt G E W) (i1 : 1 ∈ G) (gW : Gr W w) (rb ab tb m : Nat) (p : List UInt8) (at_ : Nat) (cs : Array Value) (t : TypeId) (h : RdAt (· ≠ ab) w rb p at_) (hrW : W.heap.size ≤ rb) (haW : W.heap.size ≤ ab) (hra : rb ≠ ab) (hrt : tb ≠ rb) (hat : tb ≠ ab) (htl : tb < w.heap.size)
    (hb : Blk w ab cs t) (hm : m ≤ cs.size) (hm2 : m ≤ 100) (hT : ∀ j, j < m → w.cell? ⟨tb, j, none⟩ = some (.pointer (some ⟨ab, j, none⟩))) (hn : numsR m (p.drop at_) = none) :
    Calls Tryd.prog 31 #[.pointer (some ⟨rb, 0, none⟩), .slice (some ⟨tb, 0, none⟩) m m] w fun e w' => e = .returned (Value.iface 137 (.pointer (some (E 1)))) ∧ GrX [rb, ab] w w' :=
  (numbers_any W w hE i1 gW rb ab tb m p at_ cs t h hrW haW hra hrt hat htl hb hm hm2 hT).mono fun e w' ⟨h1, h2⟩ => by rw [hn] at h2; exact ⟨h2, h1⟩
theorem GrX.set5 {S : List Nat} {w a : World} {b : Nat} (h : GrX S w a) (hb : b ∈ S) (v0 v1 v2 v3 v4 : Value) : GrX S w (((((a.setCell ⟨b, 0, none⟩ v0).setCell ⟨b, 1, none⟩ v1).setCell ⟨b, 2, none⟩ v2).setCell ⟨b, 3, none⟩ v3).setCell ⟨b, 4, none⟩ v4) := (GrX.set (GrX.set (GrX.set (GrX.set (GrX.set h (p := ⟨b, 0, none⟩) (.inl hb) v0) (p := ⟨b, 1, none⟩) (.inl hb) v1) (p := ⟨b, 2, none⟩) (.inl hb) v2) (p := ⟨b, 3, none⟩) (.inl hb) v3) (p := ⟨b, 4, none⟩) (.inl hb) v4)
theorem GrX.set11 {S : List Nat} {w a : World} {b : Nat} (h : GrX S w a) (hb : b ∈ S) (v0 v1 v2 v3 v4 v5 v6 v7 v8 v9 v10 : Value) : GrX S w (((((((((((a.setCell ⟨b, 0, none⟩ v0).setCell ⟨b, 1, none⟩ v1).setCell ⟨b, 2, none⟩ v2).setCell ⟨b, 3, none⟩ v3).setCell ⟨b, 4, none⟩ v4).setCell ⟨b, 5, none⟩ v5).setCell ⟨b, 6, none⟩ v6).setCell ⟨b, 7, none⟩ v7).setCell ⟨b, 8, none⟩ v8).setCell ⟨b, 9, none⟩ v9).setCell ⟨b, 10, none⟩ v10) := (GrX.set (GrX.set (GrX.set (GrX.set (GrX.set (GrX.set (GrX.set (GrX.set (GrX.set (GrX.set (GrX.set h (p := ⟨b, 0, none⟩) (.inl hb) v0) (p := ⟨b, 1, none⟩) (.inl hb) v1) (p := ⟨b, 2, none⟩) (.inl hb) v2) (p := ⟨b, 3, none⟩) (.inl hb) v3) (p := ⟨b, 4, none⟩) (.inl hb) v4) (p := ⟨b, 5, none⟩) (.inl hb) v5) (p := ⟨b, 6, none⟩) (.inl hb) v6) (p := ⟨b, 7, none⟩) (.inl hb) v7) (p := ⟨b, 8, none⟩) (.inl hb) v8) (p := ⟨b, 9, none⟩) (.inl hb) v9) (p := ⟨b, 10, none⟩) (.inl hb) v10)
abbrev repZ : Value := .agg #[.int .i64 0, .int .i64 0, .int .i64 0, .int .i64 0, .slice none 0 0]
/-- Four pointers to the first cells of a variable. -/
theorem ptrs4 {w : World} {tb ab : Nat} {t : TypeId} (h : Blk w tb #[.pointer (some ⟨ab, 0, none⟩), .pointer (some ⟨ab, 1, none⟩), .pointer (some ⟨ab, 2, none⟩), .pointer (some ⟨ab, 3, none⟩)] t) : ∀ j, j < 4 → w.cell? ⟨tb, j, none⟩ = some (.pointer (some ⟨ab, j, none⟩)) := fun j hj => by
  match j, hj with
  | 0, _ => exact h.cell rfl
  | 1, _ => exact h.cell rfl
  | 2, _ => exact h.cell rfl
  | 3, _ => exact h.cell rfl
set_option maxRecDepth 100000 in
set_option maxHeartbeats 3200000 in
theorem getReply_yes {G : List Nat} {E : Nat → Addr} (w : World) (hE : EAt G E w) (i1 : 1 ∈ G) (b off c : Nat) (L : List UInt8) (hS : BytesAt w (some ⟨b, off, none⟩) (frameB L)) (hL : L.length ≤ 32768) (hc : (frameB L).length ≤ c)
    (n0 n1 n2 n3 k n j : Nat) (hk : numsR 4 L = some ([n0, n1, n2, n3], k)) (hq : numR (L.drop k) = some (n, j)) (hn : n ≤ 16000) (he : k + j + n = L.length) :
    Calls Tryd.prog 14 #[.slice (some ⟨b, off, none⟩) (frameB L).length c] w fun e w' => ∃ a' c', e = .returned (.tuple #[.agg #[.int .i64 n0, .int .i64 n1, .int .i64 n2, .int .i64 n3, .slice a' n c'], .nilIface]) ∧ Own w w' a' c' (L.drop (k + j)) := by
  have hop := opened_yes (w.alloc (.cells #[.int .i64 0, .int .i64 0, .int .i64 0, .int .i64 0, .slice none 0 0] 24)) b off c L (hS.gr ((Gr.refl w).alloc _)) hL hc
  obtain ⟨N, hN⟩ : ∃ N, (frameB L).length = N := ⟨_, rfl⟩
  rw [hN] at hop ⊢
  replace hN := Lib.hid hN
  replace hop := Lib.hid hop
  replace hS := Lib.hid hS
  replace hk := Lib.hid hk
  replace hq := Lib.hid hq
  replace he := Lib.hid he
  go_enter Tryd.func14, Tryd.ntmps14
  go_wp2_with fail
  refine hop.out.mono ?_
  rintro e w1 ⟨rb, rfl, hr1, hr2, g1⟩
  have hb1 : Blk w1 w.heap.size #[.int .i64 0, .int .i64 0, .int .i64 0, .int .i64 0, .slice none 0 0] 24 := (Blk.new w _ _).gr g1
  have gw1 : Gr w w1 := ((Gr.refl w).alloc _).trans g1
  have z1 := gw1.size
  have z2 := g1.size
  simp only [World.size_alloc] at z2 hr2
  obtain ⟨ab, hab⟩ : ∃ ab, w1.heap.size = ab := ⟨_, rfl⟩
  rw [hab] at z1 hr1
  have hr2' : RdAt (· ≠ ab) w1 rb L 0 := hr1.mono (fun b hb => by omega)
  have hrl : rb < ab := by obtain ⟨_, _, hh, _⟩ := hr1; have := hh.lt; omega
  have hkl := hk.out
  replace hr1 := Lib.hid hr1
  replace hr2' := Lib.hid hr2'
  replace hb1 := Lib.hid hb1
  replace hkl := Lib.hid hkl
  go_wp2_with fail
  refine (numbers_yes w _ hE i1 ((gw1.alloc _).alloc _) rb ab (ab + 1) 4 L 0 #[.int .i64 0, .int .i64 0, .int .i64 0, .int .i64 0, .slice none 0 0] 24 ((hr2'.out.gr ((Gr.refl w1).alloc _)).gr ((Gr.refl _).alloc _)) (by omega) (by omega) (by omega) (by omega) (by omega) (by simp; omega) ((Blk.new1 hab).alloc _) (by decide) (by decide) (ptrs4 (t := 71) (Blk.new1 (by simp [hab]))) hkl.out).mono ?_
  rintro e w3 ⟨rfl, g3, hr3, hb3⟩
  have gw3 : Gr w w3 := GrX.all ((gw1.alloc _).alloc _) g3 (fun x hx => by simp at hx; rcases hx with rfl | rfl <;> omega)
  have hb3' : Blk w3 ab #[.int .i64 n0, .int .i64 n1, .int .i64 n2, .int .i64 n3, .slice none 0 0] 24 := hb3
  have hc3 : Blk w3 w.heap.size #[.int .i64 0, .int .i64 0, .int .i64 0, .int .i64 0, .slice none 0 0] 24 := ((hb1.out.alloc _).alloc _).grx g3 (by simp; omega)
  have hkb := (numR_bd hq.out).2.2.2
  dsimp only at hkb
  rw [List.length_drop] at hkb
  have he' := he.out
  rw [Nat.zero_add] at hr3
  have hby := rbytes_yes w3 rb L k 16000 hr3 hq.out (by omega) (by omega)
  have z3 := gw3.size
  have zab := hb3'.lt
  clear g3 hb3
  replace hr3 := Lib.hid hr3
  replace hb3' := Lib.hid hb3'
  replace hc3 := Lib.hid hc3
  replace hby := Lib.hid hby
  replace he' := Lib.hid he'
  go_wp2_with fail
  refine hby.out.mono ?_
  rintro e w4 ⟨a4, c4, rfl, ho4, hr4, g4⟩
  have hb4 := hb3'.out.grx g4 (by simp; omega)
  have hc4 := hc3.out.grx g4 (by simp; omega)
  have e4 := hb4.cell (i := 4) (v := .slice none 0 0) rfl
  have f4 := hb4.free 4
  obtain ⟨w5, hw5⟩ : ∃ w5, w5 = w4.setCell ⟨ab, 4, none⟩ (.slice a4 n c4) := ⟨_, rfl⟩
  have g5 : GrX [ab] w4 w5 := by rw [hw5]; exact (GrX.refl _ _).set (.inl (by simp)) _
  have hb5 : Blk w5 ab #[.int .i64 n0, .int .i64 n1, .int .i64 n2, .int .i64 n3, .slice a4 n c4] 24 := by rw [hw5]; exact hb4.set 4 _
  have hc5 := hc4.grx g5 (by simp; omega)
  have hr5 := hr4.grx g5 (by simp; omega) (fun b hb => by simpa using hb)
  rw [he'.out] at hr5
  have hen := rend_yes w5 rb L hr5
  replace hw5 := Lib.hid hw5
  replace hr5 := Lib.hid hr5
  replace hr4 := Lib.hid hr4
  replace hb4 := Lib.hid hb4
  replace hc4 := Lib.hid hc4
  replace hb5 := Lib.hid hb5
  replace hc5 := Lib.hid hc5
  replace hen := Lib.hid hen
  replace ho4 := Lib.hid ho4
  go_upto_region 9 with fail
  rw [← hw5.out]
  go_wp2_with fail
  refine hen.out.mono ?_
  rintro e w6 ⟨rfl, g6⟩
  have hb6 := hb5.out.gr g6
  have hc6 := hc5.out.gr g6
  have p0 := hb6.cell (i := 0) (v := .int .i64 n0) rfl
  have p1 := hb6.cell (i := 1) (v := .int .i64 n1) rfl
  have p2 := hb6.cell (i := 2) (v := .int .i64 n2) rfl
  have p3 := hb6.cell (i := 3) (v := .int .i64 n3) rfl
  have p4 := hb6.cell (i := 4) (v := .slice a4 n c4) rfl
  have q0 := hc6.cell (i := 0) (v := .int .i64 0) rfl
  have q1 := hc6.cell (i := 1) (v := .int .i64 0) rfl
  have q2 := hc6.cell (i := 2) (v := .int .i64 0) rfl
  have q3 := hc6.cell (i := 3) (v := .int .i64 0) rfl
  have q4 := hc6.cell (i := 4) (v := .slice none 0 0) rfl
  have r0 := hc6.free 0
  have r1 := hc6.free 1
  have r2 := hc6.free 2
  have r3 := hc6.free 3
  have r4 := hc6.free 4
  replace hb6 := Lib.hid hb6
  replace hc6 := Lib.hid hc6
  go_wp2_with fail
  refine bodyPost_ret (v := .tuple #[.agg #[.int .i64 n0, .int .i64 n1, .int .i64 n2, .int .i64 n3, .slice a4 n c4], .nilIface]) ?_ rfl ⟨a4, c4, rfl, ?_⟩
  · refine (res_cell (b := w.heap.size) (t := 24) Tryd.results14 _ _ (hc6.out.set5 ?_ _ _ _ _ _) ?_ Tryd.underlying24 (by kernel_rfl)).trans ?_
    · rfl
    · simp
    · simp
  · have g46 : GrX [ab] w4 w6 := g5.gr g6
    have hge : ∀ x, a4 = some x → w3.heap.size ≤ x.block := ho4.out.2.2.2
    have gW6 : Gr w w6 := GrX.all gw3 ((g4.mono (T := [rb, ab]) (fun x hx => by simp at hx; simp [hx])).trans (g46.mono (fun x hx => by simp at hx; simp [hx]))) (fun x hx => by simp at hx; rcases hx with rfl | rfl <;> omega)
    have ho6 := (ho4.out.grx g46 (fun x hx => by have := hge x hx; simp; omega)).grx (((GrX.refl [w.heap.size] w6).set5 (b := w.heap.size) (by simp) (.int .i64 n0) (.int .i64 n1) (.int .i64 n2) (.int .i64 n3) (.slice a4 n c4))) (fun x hx => by have := hge x hx; simp; omega)
    have hL2 : (L.drop (k + j)).take n = L.drop (k + j) := List.take_of_length_le (by rw [List.length_drop]; have := he'.out; omega)
    rw [hL2] at ho6
    exact (ho6.older (W := w) (by omega)).own (gW6.set5 (Nat.le_refl _) _ _ _ _ _)
end Go.Proofs.YtlgbnjaoadlolaaDoor
