/- AdmitRuns, the plain law: earliest deadline first is never late; the work is done within the length at which the requests fit. -/
import Derived.Test.YtmookdgeblcjnaaDoorH16
namespace Go.Proofs.YtmookdgeblcjnaaDoor
open Go.RowKit

/-- A server as a row of jobs. -/
structure St where
  s : Srv
  left : Int
  dead : Int
  next : Int
theorem sumI_les {α : Type} {f g : α → Int} : ∀ {l : List α}, (∀ x ∈ l, f x ≤ g x) → sumI f l ≤ sumI g l := by
  intro l
  induction l with
  | nil => intro _; exact Int.le_refl _
  | cons a l ih =>
    intro h
    rw [sumI_cons, sumI_cons]
    have h1 := ih (fun x hx => h x (List.mem_cons_of_mem _ hx))
    have h2 := h a (List.mem_cons_self ..)
    omega
theorem sumI_nonneg {α : Type} {f : α → Int} : ∀ {l : List α}, (∀ x ∈ l, 0 ≤ f x) → 0 ≤ sumI f l := by
  intro l
  induction l with
  | nil => intro _; exact Int.le_refl _
  | cons a l ih =>
    intro h
    rw [sumI_cons]
    have h1 := ih (fun x hx => h x (List.mem_cons_of_mem _ hx))
    have h2 := h a (List.mem_cons_self ..)
    omega
theorem sumI_mem {α : Type} {f : α → Int} {l : List α} {x : α} (h : ∀ x ∈ l, 0 ≤ f x) (hx : x ∈ l) : f x ≤ sumI f l := by
  induction l with
  | nil => cases hx
  | cons a l ih =>
    rw [sumI_cons]
    have h1 := h a (List.mem_cons_self ..)
    have h2 := sumI_nonneg (f := f) (l := l) (fun x hx => h x (List.mem_cons_of_mem _ hx))
    rcases List.mem_cons.1 hx with rfl | hx
    · omega
    · have := ih (fun x hx => h x (List.mem_cons_of_mem _ hx)) hx
      omega
theorem sumI_set {α : Type} {f : α → Int} {l : List α} {i : Nat} {x y : α} (h : l[i]? = some x) : sumI f (l.set i y) = sumI f l - f x + f y := by
  induction l generalizing i with
  | nil => cases h
  | cons a l ih =>
    cases i with
    | zero =>
      simp at h
      subst h
      rw [List.set_cons_zero, sumI_cons, sumI_cons]
      omega
    | succ i =>
      rw [List.set_cons_succ, sumI_cons, sumI_cons, ih (by simpa using h)]
      omega
theorem sumI_map {α β : Type} (g : α → β) (f : β → Int) (l : List α) : sumI f (l.map g) = sumI (fun x => f (g x)) l := by
  induction l with
  | nil => rfl
  | cons a l ih => rw [List.map_cons, sumI_cons, sumI_cons, ih]

/-- How many periods end within a ticks; how many begin. -/
def cnt (a t : Int) : Int := if a < 0 then 0 else a / t
def cup (a t : Int) : Int := if a ≤ 0 then 0 else (a + t - 1) / t
theorem cnt_nonneg {a t : Int} (ht : 1 ≤ t) : 0 ≤ cnt a t := by
  unfold cnt
  split
  · exact Int.le_refl _
  · exact Int.ediv_nonneg (by omega) (by omega)
theorem cup_nonneg {a t : Int} (ht : 1 ≤ t) : 0 ≤ cup a t := by
  unfold cup
  split
  · exact Int.le_refl _
  · exact Int.ediv_nonneg (by omega) (by omega)
theorem cnt_mono {a b t : Int} (ht : 1 ≤ t) (h : a ≤ b) : cnt a t ≤ cnt b t := by
  unfold cnt
  by_cases h1 : a < 0
  · rw [if_pos h1]; exact cnt_nonneg ht
  · rw [if_neg h1, if_neg (by omega)]; exact Int.ediv_le_ediv (by omega) h
theorem cup_mono {a b t : Int} (ht : 1 ≤ t) (h : a ≤ b) : cup a t ≤ cup b t := by
  unfold cup
  by_cases h1 : a ≤ 0
  · rw [if_pos h1]; exact cup_nonneg ht
  · rw [if_neg h1, if_neg (by omega)]; exact Int.ediv_le_ediv (by omega) (by omega)
theorem cnt_more {a t : Int} (ht : 1 ≤ t) (h : t ≤ a) : 1 + cnt (a - t) t = cnt a t := by
  unfold cnt
  rw [if_neg (by omega), if_neg (by omega)]
  have := Int.add_mul_ediv_right (a - t) 1 (show t ≠ 0 by omega)
  rw [Int.one_mul, Int.sub_add_cancel] at this
  omega
theorem cup_more {a t : Int} (ht : 1 ≤ t) (h : 1 ≤ a) : 1 + cup (a - t) t ≤ cup a t := by
  unfold cup
  by_cases h1 : a - t ≤ 0
  · rw [if_pos h1, if_neg (by omega)]
    have : 1 ≤ (a + t - 1) / t := Int.le_ediv_of_mul_le (by omega) (by omega)
    omega
  · rw [if_neg h1, if_neg (by omega)]
    have := Int.add_mul_ediv_right (a - t + t - 1) 1 (show t ≠ 0 by omega)
    rw [Int.one_mul, show a - t + t - 1 + t = a + t - 1 by omega] at this
    omega

/-- What is asked until D at most; what is left and comes until E. -/
def dmdI (now D : Int) (x : St) : Int := (if 0 < x.left ∧ x.dead ≤ D then x.left else 0) + x.s.q * cnt (D - max x.next now) x.s.t
def wrkI (now E : Int) (x : St) : Int := x.left + x.s.q * cup (E - max x.next now) x.s.t
structure StOk (now : Int) (x : St) : Prop where
  q1 : 1 ≤ x.s.q
  t1 : 1 ≤ x.s.t
  t2 : x.s.t ≤ 256
  q2 : x.s.q ≤ x.s.t
  l0 : 0 ≤ x.left
  l1 : x.left ≤ x.s.q
  d0 : 0 ≤ x.dead
  d1 : x.dead ≤ now + 256
  n0 : 0 ≤ x.next
  n1 : x.next ≤ now + 512
  dn : 0 < x.left → x.dead ≤ x.next
/-- What holds at a moment of a run: d, the length at which the requests fit; E, when all that has come is done at the latest. -/
structure Run (d now E : Int) (L : List St) : Prop where
  ok : ∀ x ∈ L, StOk now x
  dmd : ∀ D, now ≤ D → sumI (dmdI now D) L ≤ D - now
  wrk : sumI (wrkI now E) L ≤ E - now
  dem : ∀ n : Nat, sumI (fun x : St => x.s.q * ((n : Int) / x.s.t)) L ≤ n
  req : sumI (fun x : St => x.s.q * cup d x.s.t) L ≤ d
  d1 : 1 ≤ d
theorem dmd_nonneg {now D : Int} {x : St} (h : StOk now x) : 0 ≤ dmdI now D x := by
  unfold dmdI
  have h1 := Int.mul_nonneg (show 0 ≤ x.s.q by have := h.q1; omega) (cnt_nonneg (a := D - max x.next now) h.t1)
  have := h.l0
  split <;> omega
theorem wrk_nonneg {now E : Int} {x : St} (h : StOk now x) : 0 ≤ wrkI now E x := by
  unfold wrkI
  have h1 := Int.mul_nonneg (show 0 ≤ x.s.q by have := h.q1; omega) (cup_nonneg (a := E - max x.next now) h.t1)
  have := h.l0
  omega
/-- No job is late. -/
theorem Run.late {d now E : Int} {L : List St} (h : Run d now E L) {x : St} (hx : x ∈ L) (hl : 0 < x.left) : now < x.dead := by
  by_cases hd : now < x.dead
  · exact hd
  · have h1 := h.dmd now (Int.le_refl _)
    have h2 := sumI_mem (f := dmdI now now) (fun y hy => dmd_nonneg (h.ok y hy)) hx
    have h3 := h.ok x hx
    have h4 := Int.mul_nonneg (show 0 ≤ x.s.q by have := h3.q1; omega) (cnt_nonneg (a := now - max x.next now) h3.t1)
    have e : dmdI now now x = x.left + x.s.q * cnt (now - max x.next now) x.s.t := by unfold dmdI; rw [if_pos ⟨hl, by omega⟩]
    omega
theorem Run.begun {d now E : Int} {L : List St} (h : Run d now E L) {x : St} (hx : x ∈ L) (hl : 0 < x.left) : now < E := by
  have h2 := sumI_mem (f := wrkI now E) (fun y hy => wrk_nonneg (h.ok y hy)) hx
  have h3 := h.ok x hx
  have h4 := Int.mul_nonneg (show 0 ≤ x.s.q by have := h3.q1; omega) (cup_nonneg (a := E - max x.next now) h3.t1)
  have h5 := h.wrk
  have e : wrkI now E x = x.left + x.s.q * cup (E - max x.next now) x.s.t := rfl
  omega
/-- All is done: a new time begins. -/
theorem Run.fresh {d now E : Int} {L : List St} (h : Run d now E L) (hl : ∀ x ∈ L, x.left = 0) : Run d now (now + d) L := by
  refine ⟨h.ok, h.dmd, ?_, h.dem, h.req, h.d1⟩
  have h1 : sumI (wrkI now (now + d)) L ≤ sumI (fun x : St => x.s.q * cup d x.s.t) L := sumI_les fun x hx => by
    have ho := h.ok x hx
    unfold wrkI
    rw [hl x hx]
    have := cup_mono (a := now + d - max x.next now) (b := d) ho.t1 (by omega)
    have := Int.mul_le_mul_of_nonneg_left this (show 0 ≤ x.s.q by have := ho.q1; omega)
    omega
  have := h.req
  omega
/-- A job comes. -/
theorem Run.comes {d now E : Int} {L : List St} (h : Run d now E L) (hE : now < E) {i : Nat} {x : St} (hx : L[i]? = some x) (hn : x.next ≤ now) (hl : x.left = 0) (w : Int) (w0 : 0 ≤ w) (w1 : w ≤ 39) (h0 : 0 ≤ now) :
    Run d now E (L.set i ⟨x.s, x.s.q, now + x.s.t, now + x.s.t + w⟩) := by
  have hm : x ∈ L := List.mem_of_getElem? hx
  have ho := h.ok x hm
  have hq := ho.q1
  have ht := ho.t1
  have hq2 := ho.q2
  have ht2 := ho.t2
  refine ⟨fun y hy => ?_, fun D hD => ?_, ?_, fun n => ?_, ?_, h.d1⟩
  · rcases List.mem_or_eq_of_mem_set hy with hy | rfl
    · exact h.ok y hy
    · exact ⟨hq, ht, ht2, hq2, by dsimp only; omega, Int.le_refl _, by dsimp only; omega, by dsimp only; omega, by dsimp only; omega, by dsimp only; omega, fun _ => by dsimp only; omega⟩
  · rw [sumI_set hx]
    have h1 := h.dmd D hD
    have h2 : dmdI now D ⟨x.s, x.s.q, now + x.s.t, now + x.s.t + w⟩ ≤ dmdI now D x := by
      unfold dmdI
      dsimp only
      rw [hl, if_neg (show ¬ ((0 : Int) < 0 ∧ x.dead ≤ D) from fun e => by omega), show max x.next now = now by omega]
      by_cases hc : x.s.t ≤ D - now
      · rw [if_pos (show 0 < x.s.q ∧ now + x.s.t ≤ D from ⟨by omega, by omega⟩)]
        have e1 := cnt_more ht hc
        have e2 := cnt_mono (a := D - max (now + x.s.t + w) now) (b := D - now - x.s.t) ht (by omega)
        have e3 : x.s.q * (1 + cnt (D - now - x.s.t) x.s.t) = x.s.q + x.s.q * cnt (D - now - x.s.t) x.s.t := by rw [Int.mul_add, Int.mul_one]
        have e4 := Int.mul_le_mul_of_nonneg_left e2 (show 0 ≤ x.s.q by omega)
        rw [← e1, e3]
        omega
      · rw [if_neg (show ¬ (0 < x.s.q ∧ now + x.s.t ≤ D) from fun e => by omega)]
        have e2 := cnt_mono (a := D - max (now + x.s.t + w) now) (b := D - now) ht (by omega)
        have e4 := Int.mul_le_mul_of_nonneg_left e2 (show 0 ≤ x.s.q by omega)
        omega
    omega
  · rw [sumI_set hx]
    have h1 := h.wrk
    have h2 : wrkI now E ⟨x.s, x.s.q, now + x.s.t, now + x.s.t + w⟩ ≤ wrkI now E x := by
      unfold wrkI
      dsimp only
      rw [hl, show max x.next now = now by omega]
      have e1 := cup_more ht (show 1 ≤ E - now by omega)
      have e2 := cup_mono (a := E - max (now + x.s.t + w) now) (b := E - now - x.s.t) ht (by omega)
      have e3 : x.s.q * (1 + cup (E - now - x.s.t) x.s.t) = x.s.q + x.s.q * cup (E - now - x.s.t) x.s.t := by rw [Int.mul_add, Int.mul_one]
      have e4 := Int.mul_le_mul_of_nonneg_left e2 (show 0 ≤ x.s.q by omega)
      have e5 := Int.mul_le_mul_of_nonneg_left e1 (show 0 ≤ x.s.q by omega)
      omega
    omega
  · rw [sumI_set hx]
    have := h.dem n
    dsimp only
    omega
  · rw [sumI_set hx]
    have := h.req
    dsimp only
    omega
theorem ok_later {now : Int} {x : St} (h : StOk now x) : StOk (now + 1) x := by
  obtain ⟨h1, h2, h3, h4, h5, h6, h7, h8, h9, h10, h11⟩ := h
  exact ⟨h1, h2, h3, h4, h5, h6, h7, by omega, h9, by omega, h11⟩
/-- Nothing with a deadline up to D is left: what comes fits. -/
theorem dmd_idle {d now E D : Int} {L : List St} (h : Run d now E L) (hD : now + 1 ≤ D) {L' : List St} (hS : L'.map St.s = L.map St.s) (hl : ∀ x ∈ L', 0 < x.left → D < x.dead) : sumI (dmdI (now + 1) D) L' ≤ D - (now + 1) := by
  obtain ⟨n, hn⟩ : ∃ n : Nat, (n : Int) = D - (now + 1) := ⟨(D - (now + 1)).toNat, by omega⟩
  have h2 := h.dem n
  rw [← hn]
  have e : ∀ M : List St, sumI (fun x : St => x.s.q * ((n : Int) / x.s.t)) M = sumI (fun s : Srv => s.q * ((n : Int) / s.t)) (M.map St.s) := fun M => (sumI_map St.s (fun s : Srv => s.q * ((n : Int) / s.t)) M).symm
  rw [e, ← hS, ← e] at h2
  have h3 : sumI (dmdI (now + 1) D) L' ≤ sumI (fun x : St => x.s.q * ((n : Int) / x.s.t)) L' := sumI_les fun x hx => by
    have hx' : x.s ∈ L.map St.s := by rw [← hS]; exact List.mem_map_of_mem hx
    obtain ⟨y, hy, hys⟩ := List.mem_map.1 hx'
    have ho := h.ok y hy
    have ht := ho.t1
    have hq := ho.q1
    rw [hys] at ht hq
    unfold dmdI
    rw [if_neg (fun e => by have := hl x hx e.1; omega)]
    have e1 := cnt_mono (a := D - max x.next (now + 1)) (b := D - (now + 1)) ht (by omega)
    have e2 : cnt (D - (now + 1)) x.s.t = (n : Int) / x.s.t := by unfold cnt; rw [if_neg (by omega), hn]
    rw [e2] at e1
    have e4 := Int.mul_le_mul_of_nonneg_left e1 (show 0 ≤ x.s.q by omega)
    omega
  omega
/-- Nothing runs. -/
theorem Run.idle {d now E : Int} {L : List St} (h : Run d now E L) (hl : ∀ x ∈ L, x.left = 0) : Run d (now + 1) (now + 1 + d) L := by
  have h1 : Run d (now + 1) (now + 1 + d) L := ⟨fun x hx => ok_later (h.ok x hx), fun D hD => dmd_idle h hD rfl (fun x hx h0 => by have := hl x hx; omega), by
    have h1 : sumI (wrkI (now + 1) (now + 1 + d)) L ≤ sumI (fun x : St => x.s.q * cup d x.s.t) L := sumI_les fun x hx => by
      have ho := h.ok x hx
      unfold wrkI
      rw [hl x hx]
      have := cup_mono (a := now + 1 + d - max x.next (now + 1)) (b := d) ho.t1 (by omega)
      have := Int.mul_le_mul_of_nonneg_left this (show 0 ≤ x.s.q by have := ho.q1; omega)
      omega
    have := h.req
    omega, h.dem, h.req, h.d1⟩
  exact h1
theorem set_same {L : List St} {i : Nat} {x : St} (hx : L[i]? = some x) (y : St) (h : y.s = x.s) : (L.set i y).map St.s = L.map St.s := by
  rw [List.map_set, h]
  apply List.ext_getElem?
  intro j
  by_cases hj : i = j
  · subst hj
    rw [List.getElem?_set_self (by simpa using get_lt hx), List.getElem?_map, hx]
    rfl
  · rw [List.getElem?_set_ne hj]
/-- The job with the earliest deadline runs for a tick. -/
theorem Run.runs {d now E : Int} {L : List St} (h : Run d now E L) {i : Nat} {x : St} (hx : L[i]? = some x) (hl : 0 < x.left) (hb : ∀ y ∈ L, 0 < y.left → x.dead ≤ y.dead) :
    Run d (now + 1) E (L.set i ⟨x.s, x.left - 1, x.dead, x.next⟩) := by
  have hm : x ∈ L := List.mem_of_getElem? hx
  have ho := h.ok x hm
  obtain ⟨o1, o2, o3, o4, o5, o6, o7, o8, o9, o10, o11⟩ := ho
  have later : ∀ D y, StOk now y → dmdI (now + 1) D y ≤ dmdI now D y := fun D y hy => by
    unfold dmdI
    have e1 := cnt_mono (a := D - max y.next (now + 1)) (b := D - max y.next now) hy.t1 (by omega)
    have e4 := Int.mul_le_mul_of_nonneg_left e1 (show 0 ≤ y.s.q by have := hy.q1; omega)
    omega
  have later2 : ∀ y, StOk now y → wrkI (now + 1) E y ≤ wrkI now E y := fun y hy => by
    unfold wrkI
    have e1 := cup_mono (a := E - max y.next (now + 1)) (b := E - max y.next now) hy.t1 (by omega)
    have e4 := Int.mul_le_mul_of_nonneg_left e1 (show 0 ≤ y.s.q by have := hy.q1; omega)
    omega
  refine ⟨fun y hy => ?_, fun D hD => ?_, ?_, fun n => ?_, ?_, h.d1⟩
  · rcases List.mem_or_eq_of_mem_set hy with hy | rfl
    · exact ok_later (h.ok y hy)
    · exact ⟨o1, o2, o3, o4, by dsimp only; omega, by dsimp only; omega, o7, by dsimp only; omega, o9, by dsimp only; omega, fun _ => o11 hl⟩
  · by_cases hD2 : x.dead ≤ D
    · rw [sumI_set hx]
      have h1 := h.dmd D (by omega)
      have h2 := sumI_les (l := L) (fun y hy => later D y (h.ok y hy))
      have h3 : dmdI (now + 1) D ⟨x.s, x.left - 1, x.dead, x.next⟩ = dmdI (now + 1) D x - 1 := by
        unfold dmdI
        dsimp only
        rw [if_pos (⟨hl, hD2⟩ : 0 < x.left ∧ x.dead ≤ D)]
        split
        · omega
        · rename_i hn
          have : x.left = 1 := by
            by_cases h1 : x.left = 1
            · exact h1
            · exact absurd ⟨by omega, hD2⟩ hn
          omega
      omega
    · refine dmd_idle h hD (set_same hx _ rfl) (fun y hy h0 => ?_)
      rcases List.mem_or_eq_of_mem_set hy with hy | rfl
      · have := hb y hy h0
        omega
      · dsimp only
        omega
  · rw [sumI_set hx]
    have h1 := h.wrk
    have h2 := sumI_les (l := L) (fun y hy => later2 y (h.ok y hy))
    have h3 : wrkI (now + 1) E ⟨x.s, x.left - 1, x.dead, x.next⟩ = wrkI (now + 1) E x - 1 := by unfold wrkI; dsimp only; omega
    omega
  · rw [sumI_set hx]
    have := h.dem n
    dsimp only
    omega
  · rw [sumI_set hx]
    have := h.req
    dsimp only
    omega
/-- The beginning. -/
theorem Run.start {d : Int} {l : List Srv} (hl : ∀ s ∈ l, Leg s) (hd : ∀ n : Nat, sumI (fun s : Srv => s.q * ((n : Int) / s.t)) l ≤ n) (hr : sumI (fun s : Srv => s.q * cup d s.t) l ≤ d) (d1 : 1 ≤ d) : Run d 0 d (l.map fun s => ⟨s, 0, 0, 0⟩) := by
  have dem : ∀ n : Nat, sumI (fun x : St => x.s.q * ((n : Int) / x.s.t)) (l.map fun s => (⟨s, 0, 0, 0⟩ : St)) ≤ n := fun n => by
    rw [sumI_map]
    exact hd n
  have req : sumI (fun x : St => x.s.q * cup d x.s.t) (l.map fun s => (⟨s, 0, 0, 0⟩ : St)) ≤ d := by
    rw [sumI_map]
    exact hr
  refine ⟨fun x hx => ?_, fun D hD => ?_, ?_, dem, req, d1⟩
  · obtain ⟨s, hs, rfl⟩ := List.mem_map.1 hx
    obtain ⟨h1, h2, h3, h4, h5⟩ := hl s hs
    exact ⟨by dsimp only; omega, by dsimp only; omega, by dsimp only; omega, by dsimp only; omega, Int.le_refl _, by dsimp only; omega, Int.le_refl _, by dsimp only; omega, Int.le_refl _, by dsimp only; omega, fun _ => Int.le_refl _⟩
  · obtain ⟨n, hn⟩ : ∃ n : Nat, (n : Int) = D := ⟨D.toNat, by omega⟩
    have h1 := hd n
    rw [sumI_map]
    have h2 : sumI (fun s : Srv => dmdI 0 D ⟨s, 0, 0, 0⟩) l ≤ sumI (fun s : Srv => s.q * ((n : Int) / s.t)) l := sumI_les fun s hs => by
      unfold dmdI
      dsimp only
      rw [if_neg (fun e => by omega)]
      have e2 : cnt (D - max 0 0) s.t = (n : Int) / s.t := by unfold cnt; rw [if_neg (by omega), hn, show D - max 0 0 = D by omega]
      rw [e2]
      omega
    omega
  · rw [sumI_map]
    have h2 : sumI (fun s : Srv => wrkI 0 d ⟨s, 0, 0, 0⟩) l ≤ sumI (fun s : Srv => s.q * cup d s.t) l := sumI_les fun s hs => by
      unfold wrkI
      dsimp only
      rw [show d - max 0 0 = d by omega]
      omega
    omega
end Go.Proofs.YtmookdgeblcjnaaDoor
