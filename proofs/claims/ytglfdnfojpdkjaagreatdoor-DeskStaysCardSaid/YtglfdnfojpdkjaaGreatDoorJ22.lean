/- AdmitRuns, the plain law: earliest deadline first is never late; the work is done within the length at which the requests fit. -/
import Derived.Test.YtglfdnfojpdkjaaGreatDoorJ17
import Derived.Test.YtglfdnfojpdkjaaGreatDoorJ13
import Derived.Test.YtglfdnfojpdkjaaGreatDoorJ10
namespace Go.Proofs.YtglfdnfojpdkjaaGreatDoor
open Go.RowKit

/-- A server as a row of jobs. -/
structure St where
  s : Srv
  left : Int
  dead : Int
  next : Int
theorem sumI_les {α : Type} {f g : α → Int} : ∀ {l : List α}, (∀ x ∈ l, f x ≤ g x) → sumI f l ≤ sumI g l := by
  intro l
  induction l with
  | nil => intro _; exact Int.le_refl _
  | cons a l ih =>
    intro h
    rw [sumI_cons, sumI_cons]
    have h1 := ih (fun x hx => h x (List.mem_cons_of_mem _ hx))
    have h2 := h a (List.mem_cons_self ..)
    omega
theorem sumI_nonneg {α : Type} {f : α → Int} : ∀ {l : List α}, (∀ x ∈ l, 0 ≤ f x) → 0 ≤ sumI f l := by
  intro l
  induction l with
  | nil => intro _; exact Int.le_refl _
  | cons a l ih =>
    intro h
    rw [sumI_cons]
    have h1 := ih (fun x hx => h x (List.mem_cons_of_mem _ hx))
    have h2 := h a (List.mem_cons_self ..)
    omega
theorem sumI_mem {α : Type} {f : α → Int} {l : List α} {x : α} (h : ∀ x ∈ l, 0 ≤ f x) (hx : x ∈ l) : f x ≤ sumI f l := by
  induction l with
  | nil => cases hx
  | cons a l ih =>
    rw [sumI_cons]
    have h1 := h a (List.mem_cons_self ..)
    have h2 := sumI_nonneg (f := f) (l := l) (fun x hx => h x (List.mem_cons_of_mem _ hx))
    rcases List.mem_cons.1 hx with rfl | hx
    · omega
    · have := ih (fun x hx => h x (List.mem_cons_of_mem _ hx)) hx
      omega
theorem sumI_set {α : Type} {f : α → Int} {l : List α} {i : Nat} {x y : α} (h : l[i]? = some x) : sumI f (l.set i y) = sumI f l - f x + f y := by
  induction l generalizing i with
  | nil => cases h
  | cons a l ih =>
    cases i with
    | zero =>
      simp at h
      subst h
      rw [List.set_cons_zero, sumI_cons, sumI_cons]
      omega
    | succ i =>
      rw [List.set_cons_succ, sumI_cons, sumI_cons, ih (by simpa using h)]
      omega
theorem sumI_map {α β : Type} (g : α → β) (f : β → Int) (l : List α) : sumI f (l.map g) = sumI (fun x => f (g x)) l := by
  induction l with
  | nil => rfl
  | cons a l ih => rw [List.map_cons, sumI_cons, sumI_cons, ih]

/-- How many periods end within a ticks; how many begin. -/
def cnt (a t : Int) : Int := if a < 0 then 0 else a / t
def cup (a t : Int) : Int := if a ≤ 0 then 0 else (a + t - 1) / t
theorem cnt_nonneg {a t : Int} (ht : 1 ≤ t) : 0 ≤ cnt a t := by
  unfold cnt
  split
  · exact Int.le_refl _
  · exact Int.ediv_nonneg (by omega) (by omega)
theorem cup_nonneg {a t : Int} (ht : 1 ≤ t) : 0 ≤ cup a t := by
  unfold cup
  split
  · exact Int.le_refl _
  · exact Int.ediv_nonneg (by omega) (by omega)
theorem cnt_mono {a b t : Int} (ht : 1 ≤ t) (h : a ≤ b) : cnt a t ≤ cnt b t := by
  unfold cnt
  by_cases h1 : a < 0
  · rw [if_pos h1]; exact cnt_nonneg ht
  · rw [if_neg h1, if_neg (by omega)]; exact Int.ediv_le_ediv (by omega) h
theorem cup_mono {a b t : Int} (ht : 1 ≤ t) (h : a ≤ b) : cup a t ≤ cup b t := by
  unfold cup
  by_cases h1 : a ≤ 0
  · rw [if_pos h1]; exact cup_nonneg ht
  · rw [if_neg h1, if_neg (by omega)]; exact Int.ediv_le_ediv (by omega) (by omega)
theorem cnt_more {a t : Int} (ht : 1 ≤ t) (h : t ≤ a) : 1 + cnt (a - t) t = cnt a t := by
  unfold cnt
  rw [if_neg (by omega), if_neg (by omega)]
  have := Int.add_mul_ediv_right (a - t) 1 (show t ≠ 0 by omega)
  rw [Int.one_mul, Int.sub_add_cancel] at this
  omega
theorem cup_more {a t : Int} (ht : 1 ≤ t) (h : 1 ≤ a) : 1 + cup (a - t) t ≤ cup a t := by
  unfold cup
  by_cases h1 : a - t ≤ 0
  · rw [if_pos h1, if_neg (by omega)]
    have : 1 ≤ (a + t - 1) / t := Int.le_ediv_of_mul_le (by omega) (by omega)
    omega
  · rw [if_neg h1, if_neg (by omega)]
    have := Int.add_mul_ediv_right (a - t + t - 1) 1 (show t ≠ 0 by omega)
    rw [Int.one_mul, show a - t + t - 1 + t = a + t - 1 by omega] at this
    omega

/-- What is asked until D at most; what is left and comes until E. -/
def dmdI (now D : Int) (x : St) : Int := (if 0 < x.left ∧ x.dead ≤ D then x.left else 0) + x.s.q * cnt (D - max x.next now) x.s.t
def wrkI (now E : Int) (x : St) : Int := x.left + x.s.q * cup (E - max x.next now) x.s.t
structure StOk (now : Int) (x : St) : Prop where
  q1 : 1 ≤ x.s.q
  t1 : 1 ≤ x.s.t
  t2 : x.s.t ≤ 256
  q2 : x.s.q ≤ x.s.t
  l0 : 0 ≤ x.left
  l1 : x.left ≤ x.s.q
  d0 : 0 ≤ x.dead
  d1 : x.dead ≤ now + 256
  n0 : 0 ≤ x.next
  n1 : x.next ≤ now + 512
  dn : 0 < x.left → x.dead ≤ x.next
/-- What holds at a moment of a run: d, the length at which the requests fit; E, when all that has come is done at the latest. -/
structure Run (d now E : Int) (L : List St) : Prop where
  ok : ∀ x ∈ L, StOk now x
  dmd : ∀ D, now ≤ D → sumI (dmdI now D) L ≤ D - now
  wrk : sumI (wrkI now E) L ≤ E - now
  dem : ∀ n : Nat, sumI (fun x : St => x.s.q * ((n : Int) / x.s.t)) L ≤ n
  req : sumI (fun x : St => x.s.q * cup d x.s.t) L ≤ d
  d1 : 1 ≤ d
theorem dmd_nonneg {now D : Int} {x : St} (h : StOk now x) : 0 ≤ dmdI now D x := by
  unfold dmdI
  have h1 := Int.mul_nonneg (show 0 ≤ x.s.q by have := h.q1; omega) (cnt_nonneg (a := D - max x.next now) h.t1)
  have := h.l0
  split <;> omega
theorem wrk_nonneg {now E : Int} {x : St} (h : StOk now x) : 0 ≤ wrkI now E x := by
  unfold wrkI
  have h1 := Int.mul_nonneg (show 0 ≤ x.s.q by have := h.q1; omega) (cup_nonneg (a := E - max x.next now) h.t1)
  have := h.l0
  omega
/-- No job is late. -/
theorem Run.late {d now E : Int} {L : List St} (h : Run d now E L) {x : St} (hx : x ∈ L) (hl : 0 < x.left) : now < x.dead := by
  by_cases hd : now < x.dead
  · exact hd
  · have h1 := h.dmd now (Int.le_refl _)
    have h2 := sumI_mem (f := dmdI now now) (fun y hy => dmd_nonneg (h.ok y hy)) hx
    have h3 := h.ok x hx
    have h4 := Int.mul_nonneg (show 0 ≤ x.s.q by have := h3.q1; omega) (cnt_nonneg (a := now - max x.next now) h3.t1)
    have e : dmdI now now x = x.left + x.s.q * cnt (now - max x.next now) x.s.t := by unfold dmdI; rw [if_pos ⟨hl, by omega⟩]
    omega
theorem Run.begun {d now E : Int} {L : List St} (h : Run d now E L) {x : St} (hx : x ∈ L) (hl : 0 < x.left) : now < E := by
  have h2 := sumI_mem (f := wrkI now E) (fun y hy => wrk_nonneg (h.ok y hy)) hx
  have h3 := h.ok x hx
  have h4 := Int.mul_nonneg (show 0 ≤ x.s.q by have := h3.q1; omega) (cup_nonneg (a := E - max x.next now) h3.t1)
  have h5 := h.wrk
  have e : wrkI now E x = x.left + x.s.q * cup (E - max x.next now) x.s.t := rfl
  omega
/-- All is done: a new time begins. -/
theorem Run.fresh {d now E : Int} {L : List St} (h : Run d now E L) (hl : ∀ x ∈ L, x.left = 0) : Run d now (now + d) L := by
  refine ⟨h.ok, h.dmd, ?_, h.dem, h.req, h.d1⟩
  have h1 : sumI (wrkI now (now + d)) L ≤ sumI (fun x : St => x.s.q * cup d x.s.t) L := sumI_les fun x hx => by
    have ho := h.ok x hx
    unfold wrkI
    rw [hl x hx]
    have := cup_mono (a := now + d - max x.next now) (b := d) ho.t1 (by omega)
    have := Int.mul_le_mul_of_nonneg_left this (show 0 ≤ x.s.q by have := ho.q1; omega)
    omega
  have := h.req
  omega
/-- A job comes. -/
theorem Run.comes {d now E : Int} {L : List St} (h : Run d now E L) (hE : now < E) {i : Nat} {x : St} (hx : L[i]? = some x) (hn : x.next ≤ now) (hl : x.left = 0) (w : Int) (w0 : 0 ≤ w) (w1 : w ≤ 39) (h0 : 0 ≤ now) :
    Run d now E (L.set i ⟨x.s, x.s.q, now + x.s.t, now + x.s.t + w⟩) := by
  have hm : x ∈ L := List.mem_of_getElem? hx
  have ho := h.ok x hm
  have hq := ho.q1
  have ht := ho.t1
  have hq2 := ho.q2
  have ht2 := ho.t2
  refine ⟨fun y hy => ?_, fun D hD => ?_, ?_, fun n => ?_, ?_, h.d1⟩
  · rcases List.mem_or_eq_of_mem_set hy with hy | rfl
    · exact h.ok y hy
    · exact ⟨hq, ht, ht2, hq2, by dsimp only; omega, Int.le_refl _, by dsimp only; omega, by dsimp only; omega, by dsimp only; omega, by dsimp only; omega, fun _ => by dsimp only; omega⟩
  · rw [sumI_set hx]
    have h1 := h.dmd D hD
    have h2 : dmdI now D ⟨x.s, x.s.q, now + x.s.t, now + x.s.t + w⟩ ≤ dmdI now D x := by
      unfold dmdI
      dsimp only
      rw [hl, if_neg (show ¬ ((0 : Int) < 0 ∧ x.dead ≤ D) from fun e => by omega), show max x.next now = now by omega]
      by_cases hc : x.s.t ≤ D - now
      · rw [if_pos (show 0 < x.s.q ∧ now + x.s.t ≤ D from ⟨by omega, by omega⟩)]
        have e1 := cnt_more ht hc
        have e2 := cnt_mono (a := D - max (now + x.s.t + w) now) (b := D - now - x.s.t) ht (by omega)
        have e3 : x.s.q * (1 + cnt (D - now - x.s.t) x.s.t) = x.s.q + x.s.q * cnt (D - now - x.s.t) x.s.t := by rw [Int.mul_add, Int.mul_one]
        have e4 := Int.mul_le_mul_of_nonneg_left e2 (show 0 ≤ x.s.q by omega)
        rw [← e1, e3]
        omega
      · rw [if_neg (show ¬ (0 < x.s.q ∧ now + x.s.t ≤ D) from fun e => by omega)]
        have e2 := cnt_mono (a := D - max (now + x.s.t + w) now) (b := D - now) ht (by omega)
        have e4 := Int.mul_le_mul_of_nonneg_left e2 (show 0 ≤ x.s.q by omega)
        omega
    omega
  · rw [sumI_set hx]
    have h1 := h.wrk
    have h2 : wrkI now E ⟨x.s, x.s.q, now + x.s.t, now + x.s.t + w⟩ ≤ wrkI now E x := by
      unfold wrkI
      dsimp only
      rw [hl, show max x.next now = now by omega]
      have e1 := cup_more ht (show 1 ≤ E - now by omega)
      have e2 := cup_mono (a := E - max (now + x.s.t + w) now) (b := E - now - x.s.t) ht (by omega)
      have e3 : x.s.q * (1 + cup (E - now - x.s.t) x.s.t) = x.s.q + x.s.q * cup (E - now - x.s.t) x.s.t := by rw [Int.mul_add, Int.mul_one]
      have e4 := Int.mul_le_mul_of_nonneg_left e2 (show 0 ≤ x.s.q by omega)
      have e5 := Int.mul_le_mul_of_nonneg_left e1 (show 0 ≤ x.s.q by omega)
      omega
    omega
  · rw [sumI_set hx]
    have := h.dem n
    dsimp only
    omega
  · rw [sumI_set hx]
    have := h.req
    dsimp only
    omega
theorem ok_later {now : Int} {x : St} (h : StOk now x) : StOk (now + 1) x := by
  obtain ⟨h1, h2, h3, h4, h5, h6, h7, h8, h9, h10, h11⟩ := h
  exact ⟨h1, h2, h3, h4, h5, h6, h7, by omega, h9, by omega, h11⟩
/-- Nothing with a deadline up to D is left: what comes fits. -/
theorem dmd_idle {d now E D : Int} {L : List St} (h : Run d now E L) (hD : now + 1 ≤ D) {L' : List St} (hS : L'.map St.s = L.map St.s) (hl : ∀ x ∈ L', 0 < x.left → D < x.dead) : sumI (dmdI (now + 1) D) L' ≤ D - (now + 1) := by
  obtain ⟨n, hn⟩ : ∃ n : Nat, (n : Int) = D - (now + 1) := ⟨(D - (now + 1)).toNat, by omega⟩
  have h2 := h.dem n
  rw [← hn]
  have e : ∀ M : List St, sumI (fun x : St => x.s.q * ((n : Int) / x.s.t)) M = sumI (fun s : Srv => s.q * ((n : Int) / s.t)) (M.map St.s) := fun M => (sumI_map St.s (fun s : Srv => s.q * ((n : Int) / s.t)) M).symm
  rw [e, ← hS, ← e] at h2
  have h3 : sumI (dmdI (now + 1) D) L' ≤ sumI (fun x : St => x.s.q * ((n : Int) / x.s.t)) L' := sumI_les fun x hx => by
    have hx' : x.s ∈ L.map St.s := by rw [← hS]; exact List.mem_map_of_mem hx
    obtain ⟨y, hy, hys⟩ := List.mem_map.1 hx'
    have ho := h.ok y hy
    have ht := ho.t1
    have hq := ho.q1
    rw [hys] at ht hq
    unfold dmdI
    rw [if_neg (fun e => by have := hl x hx e.1; omega)]
    have e1 := cnt_mono (a := D - max x.next (now + 1)) (b := D - (now + 1)) ht (by omega)
    have e2 : cnt (D - (now + 1)) x.s.t = (n : Int) / x.s.t := by unfold cnt; rw [if_neg (by omega), hn]
    rw [e2] at e1
    have e4 := Int.mul_le_mul_of_nonneg_left e1 (show 0 ≤ x.s.q by omega)
    omega
  omega
/-- Nothing runs. -/
theorem Run.idle {d now E : Int} {L : List St} (h : Run d now E L) (hl : ∀ x ∈ L, x.left = 0) : Run d (now + 1) (now + 1 + d) L := by
  have h1 : Run d (now + 1) (now + 1 + d) L := ⟨fun x hx => ok_later (h.ok x hx), fun D hD => dmd_idle h hD rfl (fun x hx h0 => by have := hl x hx; omega), by
    have h1 : sumI (wrkI (now + 1) (now + 1 + d)) L ≤ sumI (fun x : St => x.s.q * cup d x.s.t) L := sumI_les fun x hx => by
      have ho := h.ok x hx
      unfold wrkI
      rw [hl x hx]
      have := cup_mono (a := now + 1 + d - max x.next (now + 1)) (b := d) ho.t1 (by omega)
      have := Int.mul_le_mul_of_nonneg_left this (show 0 ≤ x.s.q by have := ho.q1; omega)
      omega
    have := h.req
    omega, h.dem, h.req, h.d1⟩
  exact h1
theorem set_same {L : List St} {i : Nat} {x : St} (hx : L[i]? = some x) (y : St) (h : y.s = x.s) : (L.set i y).map St.s = L.map St.s := by
  rw [List.map_set, h]
  apply List.ext_getElem?
  intro j
  by_cases hj : i = j
  · subst hj
    rw [List.getElem?_set_self (by simpa using get_lt hx), List.getElem?_map, hx]
    rfl
  · rw [List.getElem?_set_ne hj]
/-- The job with the earliest deadline runs for a tick. -/
theorem Run.runs {d now E : Int} {L : List St} (h : Run d now E L) {i : Nat} {x : St} (hx : L[i]? = some x) (hl : 0 < x.left) (hb : ∀ y ∈ L, 0 < y.left → x.dead ≤ y.dead) :
    Run d (now + 1) E (L.set i ⟨x.s, x.left - 1, x.dead, x.next⟩) := by
  have hm : x ∈ L := List.mem_of_getElem? hx
  have ho := h.ok x hm
  obtain ⟨o1, o2, o3, o4, o5, o6, o7, o8, o9, o10, o11⟩ := ho
  have later : ∀ D y, StOk now y → dmdI (now + 1) D y ≤ dmdI now D y := fun D y hy => by
    unfold dmdI
    have e1 := cnt_mono (a := D - max y.next (now + 1)) (b := D - max y.next now) hy.t1 (by omega)
    have e4 := Int.mul_le_mul_of_nonneg_left e1 (show 0 ≤ y.s.q by have := hy.q1; omega)
    omega
  have later2 : ∀ y, StOk now y → wrkI (now + 1) E y ≤ wrkI now E y := fun y hy => by
    unfold wrkI
    have e1 := cup_mono (a := E - max y.next (now + 1)) (b := E - max y.next now) hy.t1 (by omega)
    have e4 := Int.mul_le_mul_of_nonneg_left e1 (show 0 ≤ y.s.q by have := hy.q1; omega)
    omega
  refine ⟨fun y hy => ?_, fun D hD => ?_, ?_, fun n => ?_, ?_, h.d1⟩
  · rcases List.mem_or_eq_of_mem_set hy with hy | rfl
    · exact ok_later (h.ok y hy)
    · exact ⟨o1, o2, o3, o4, by dsimp only; omega, by dsimp only; omega, o7, by dsimp only; omega, o9, by dsimp only; omega, fun _ => o11 hl⟩
  · by_cases hD2 : x.dead ≤ D
    · rw [sumI_set hx]
      have h1 := h.dmd D (by omega)
      have h2 := sumI_les (l := L) (fun y hy => later D y (h.ok y hy))
      have h3 : dmdI (now + 1) D ⟨x.s, x.left - 1, x.dead, x.next⟩ = dmdI (now + 1) D x - 1 := by
        unfold dmdI
        dsimp only
        rw [if_pos (⟨hl, hD2⟩ : 0 < x.left ∧ x.dead ≤ D)]
        split
        · omega
        · rename_i hn
          have : x.left = 1 := by
            by_cases h1 : x.left = 1
            · exact h1
            · exact absurd ⟨by omega, hD2⟩ hn
          omega
      omega
    · refine dmd_idle h hD (set_same hx _ rfl) (fun y hy h0 => ?_)
      rcases List.mem_or_eq_of_mem_set hy with hy | rfl
      · have := hb y hy h0
        omega
      · dsimp only
        omega
  · rw [sumI_set hx]
    have h1 := h.wrk
    have h2 := sumI_les (l := L) (fun y hy => later2 y (h.ok y hy))
    have h3 : wrkI (now + 1) E ⟨x.s, x.left - 1, x.dead, x.next⟩ = wrkI (now + 1) E x - 1 := by unfold wrkI; dsimp only; omega
    omega
  · rw [sumI_set hx]
    have := h.dem n
    dsimp only
    omega
  · rw [sumI_set hx]
    have := h.req
    dsimp only
    omega
/-- The beginning. -/
theorem Run.start {d : Int} {l : List Srv} (hl : ∀ s ∈ l, Leg s) (hd : ∀ n : Nat, sumI (fun s : Srv => s.q * ((n : Int) / s.t)) l ≤ n) (hr : sumI (fun s : Srv => s.q * cup d s.t) l ≤ d) (d1 : 1 ≤ d) : Run d 0 d (l.map fun s => ⟨s, 0, 0, 0⟩) := by
  have dem : ∀ n : Nat, sumI (fun x : St => x.s.q * ((n : Int) / x.s.t)) (l.map fun s => (⟨s, 0, 0, 0⟩ : St)) ≤ n := fun n => by
    rw [sumI_map]
    exact hd n
  have req : sumI (fun x : St => x.s.q * cup d x.s.t) (l.map fun s => (⟨s, 0, 0, 0⟩ : St)) ≤ d := by
    rw [sumI_map]
    exact hr
  refine ⟨fun x hx => ?_, fun D hD => ?_, ?_, dem, req, d1⟩
  · obtain ⟨s, hs, rfl⟩ := List.mem_map.1 hx
    obtain ⟨h1, h2, h3, h4, h5⟩ := hl s hs
    exact ⟨by dsimp only; omega, by dsimp only; omega, by dsimp only; omega, by dsimp only; omega, Int.le_refl _, by dsimp only; omega, Int.le_refl _, by dsimp only; omega, Int.le_refl _, by dsimp only; omega, fun _ => Int.le_refl _⟩
  · obtain ⟨n, hn⟩ : ∃ n : Nat, (n : Int) = D := ⟨D.toNat, by omega⟩
    have h1 := hd n
    rw [sumI_map]
    have h2 : sumI (fun s : Srv => dmdI 0 D ⟨s, 0, 0, 0⟩) l ≤ sumI (fun s : Srv => s.q * ((n : Int) / s.t)) l := sumI_les fun s hs => by
      unfold dmdI
      dsimp only
      rw [if_neg (fun e => by omega)]
      have e2 : cnt (D - max 0 0) s.t = (n : Int) / s.t := by unfold cnt; rw [if_neg (by omega), hn, show D - max 0 0 = D by omega]
      rw [e2]
      omega
    omega
  · rw [sumI_map]
    have h2 : sumI (fun s : Srv => wrkI 0 d ⟨s, 0, 0, 0⟩) l ≤ sumI (fun s : Srv => s.q * cup d s.t) l := sumI_les fun s hs => by
      unfold wrkI
      dsimp only
      rw [show d - max 0 0 = d by omega]
      omega
    omega
end Go.Proofs.YtglfdnfojpdkjaaGreatDoor
/- admit.Drain. -/
namespace Go.Proofs.YtglfdnfojpdkjaaGreatDoor
open Go.RowKit

def reqsI (l : List Srv) (n : Int) : Int := sumI (fun s => reqI s n) l
theorem req_line {x : Srv} (hx : Leg x) (n : Int) : reqI x n * x.t ≤ x.q * n + x.q * (2 * x.t) := by
  obtain ⟨_, _, h3, h4, h5⟩ := hx
  have h1 := Int.ediv_mul_le (n + x.t - 1) (show x.t ≠ 0 by omega)
  have h2 : x.q * (upI n x.t * x.t) ≤ x.q * (n + x.t) := Int.mul_le_mul_of_nonneg_left (by unfold upI; omega) (by omega)
  have h6 : 0 ≤ x.q * x.t := Int.mul_nonneg (by omega) (by omega)
  have e1 : upI n x.t * x.q * x.t = x.q * (upI n x.t * x.t) := by rw [Int.mul_comm (upI n x.t) x.q, Int.mul_assoc]
  have e2 : x.q * (n + x.t) = x.q * n + x.q * x.t := Int.mul_add ..
  have e3 : x.q * (2 * x.t) = x.q * x.t + x.q * x.t := by rw [Int.mul_left_comm]; omega
  unfold reqI
  split
  · rw [Int.add_mul, e1, e3]
    omega
  · rw [e1, e3]
    omega
theorem reqs_line (n : Int) : ∀ (l : List Srv), allLeg l = true → (shareS l).2 * reqsI l n ≤ (shareS l).1 * n + (shareS l).2 * (2 * sumQ l) := by
  have key : ∀ (k : Nat) (l : List Srv), l.length = k → allLeg l = true → (shareS l).2 * reqsI l n ≤ (shareS l).1 * n + (shareS l).2 * (2 * sumQ l) ∧ 0 ≤ (shareS l).2 := by
    intro k
    induction k with
    | zero =>
      intro l hl _
      obtain rfl := List.length_eq_zero_iff.1 hl
      simp [shareS, reqsI, sumQ, sumI]
    | succ k ih =>
      intro l hl hal
      obtain ⟨m, x, rfl⟩ : ∃ m x, l = m ++ [x] := by
        have hne : l ≠ [] := fun e => by rw [e] at hl; cases hl
        exact ⟨l.dropLast, l.getLast hne, (List.dropLast_concat_getLast hne).symm⟩
      rw [allLeg_snoc, Bool.and_eq_true] at hal
      obtain ⟨h1, h2⟩ := ih m (by simpa using hl) hal.1
      have hx := (Srv.leg_iff x).1 hal.2
      have h3 := req_line hx n
      obtain ⟨_, _, x3, x4, x5⟩ := hx
      have e1 : reqsI (m ++ [x]) n = reqsI m n + reqI x n := sumI_snoc _ m x
      have e2 : sumQ (m ++ [x]) = sumQ m + x.q := sumI_snoc _ m x
      rw [shareS_snoc, e1, e2]
      simp only [plusP]
      have a1 := Int.mul_le_mul_of_nonneg_left h1 (show 0 ≤ x.t by omega)
      have a2 := Int.mul_le_mul_of_nonneg_left h3 h2
      refine ⟨?_, Int.mul_nonneg h2 (by omega)⟩
      have b1 : (shareS m).2 * x.t * (reqsI m n + reqI x n) = x.t * ((shareS m).2 * reqsI m n) + (shareS m).2 * (reqI x n * x.t) := by
        rw [Int.mul_add, Int.mul_assoc, Int.mul_assoc, Int.mul_comm x.t (reqI x n), Int.mul_left_comm]
      have b2 : ((shareS m).1 * x.t + (shareS m).2 * x.q) * n + (shareS m).2 * x.t * (2 * (sumQ m + x.q)) = x.t * ((shareS m).1 * n + (shareS m).2 * (2 * sumQ m)) + (shareS m).2 * (x.q * n + x.q * (2 * x.t)) := by
        simp only [Int.add_mul, Int.mul_add, Int.mul_assoc, Int.mul_comm, Int.mul_left_comm]
        omega
      rw [b1, b2]
      omega
  intro l hal
  exact (key l.length l rfl hal).1
/-- The servers that fit have a Drain. -/
theorem drain_some {s : Srv} {l : List Srv} (h : kidsErr s l = none) : reqsI l 4096 ≤ givI (rowI s) 4096 := by
  obtain ⟨hp, hs, hl, hb⟩ := kids_parts h
  obtain ⟨hal, h8⟩ := srvErr_none hs
  have hd := reqs_line 4096 l hal
  exact line_beyond (n := 4096) hp (srvErr_shr hs) hl (by omega) hd

set_option maxRecDepth 100000 in
set_option maxHeartbeats 3200000 in
theorem drain_yes {G : List Nat} {E : Nat → Addr} (s : Srv) (a : Option Addr) (l : List Srv) (c : Nat) (w : World) (hE : EAt G E w) (i0 : 4 ∈ G) (i1 : 5 ∈ G) (i3 : 7 ∈ G) (hl : SrvsAt w a l) (hm : l.length ≤ maxLen) (hk : kidsErr s l = none) :
    Calls Tryz.prog 121 #[.agg #[.int .i64 s.k, .int .i64 s.q, .int .i64 s.t], .slice a l.length c] w fun e w' => ∃ d : Nat, e = .returned (.tuple #[.int .i64 d, .nilIface]) ∧ 1 ≤ d ∧ d ≤ 4096 ∧ reqsI l d ≤ givI (rowI s) d ∧ Gr w w' := by
  have hki : ∀ w', Gr w w' → Calls Tryz.prog 116 #[.agg #[.int .i64 s.k, .int .i64 s.q, .int .i64 s.t], .slice a l.length c] w' fun e w'' => e = .returned .nilIface ∧ Gr w' w'' := fun w' g => by
    have := kids_any s a l c w' (hE.gr g) i0 i1 i3 (hl.gr g) hm
    rw [hk] at this
    exact this
  have hds := drain_some hk
  obtain ⟨hp, hs, -, -⟩ := kids_parts hk
  obtain ⟨hal, h8⟩ := srvErr_none hs
  have hrq := fun w' (n : Nat) (hn : n ≤ 4096) (g : Gr w w') => drequests_yes a l c n w' (hl.gr g) (srvErr_chk hs (n := (n : Int)) ⟨by omega, by omega⟩)
  have hbo := fun w' (n : Nat) (hn : n ≤ 4096) => bound_yes s n w' hp (⟨by omega, by omega⟩ : LenOk (n : Int))
  have hrb : ∀ n : Nat, n ≤ 4096 → 0 ≤ reqsI l n ∧ reqsI l n ≤ 8 * (1099511627776 + 512) := fun n hn => by
    have := sumI_bd (fun s => reqI s n) l (1099511627776 + 512) (fun x hx => req_bd ((Srv.leg_iff _).1 (List.all_eq_true.1 hal x hx)) ⟨by omega, by omega⟩)
    have h9 : (l.length : Int) ≤ 8 := by omega
    unfold reqsI
    omega
  have hgb : ∀ n : Nat, n ≤ 4096 → 0 ≤ givI (rowI s) n ∧ givI (rowI s) n ≤ n := fun n hn => ⟨giv_nonneg (rowI_ok hp) _, giv_le (rowI_ok hp) (by omega)⟩
  have hE0 := fun w' (g : Gr w w') => (hE.gr g)
  unfold reqsI at *
  replace hki := Lib.hid hki
  replace hrq := Lib.hid hrq
  replace hbo := Lib.hid hbo
  replace hds := Lib.hid hds
  replace hrb := Lib.hid hrb
  replace hgb := Lib.hid hgb
  replace hk := Lib.hid hk
  replace hp := Lib.hid hp
  replace hs := Lib.hid hs
  replace hal := Lib.hid hal
  go_enter Tryz.func121, Tryz.ntmps121
  go_wp2_with fail
  refine (hki.out _ ((Gr.refl w).alloc _)).mono ?_
  rintro e w1 ⟨rfl, g1⟩
  obtain ⟨c1, f1, s1⟩ := g1.cells
  try simp only [size_drewN] at c1 f1 s1
  try simp only [World.size_alloc] at c1 f1 s1
  try simp only [World.size_drew] at c1 f1 s1
  try simp only [World.size_setCell] at c1 f1 s1
  have z10 : w.heap.size < w1.heap.size := by omega
  have y10 : w.heap.size ≤ w1.heap.size := by omega
  have k10 := fun o => c1 (w.heap.size) o (by omega)
  have j10 := fun o => f1 (w.heap.size) o (by omega)
  go_wp2_with fail
  have gA : Gr w w1 := ((Gr.refl w).alloc _).trans g1
  go_loopw [7] (fun lv wr => ∃ n : Nat, 1 ≤ n ∧ n ≤ 4096 ∧ lv = .int .i64 n ∧ Gr w1 wr) (fun lv _ => 4097 - (intOf lv).toNat)
  case atStart => exact ⟨1, by omega, by omega, rfl, Gr.refl _⟩
  case round =>
    obtain ⟨n, hn1, hn2, rfl, hg⟩ := hrel
    have gall : Gr w wr := gA.trans hg
    obtain ⟨cg, fg, sg⟩ := hg.cells
    have k1 := fun o => cg w.heap.size o (by omega)
    clear cg fg
    have hnt : decide ((n : Int) ≤ 4096) = true := decide_eq_true (by omega)
    obtain ⟨r1, r2⟩ := hrb.out n hn2
    obtain ⟨r3, r4⟩ := hgb.out n hn2
    have hrq1 := hrq.out wr n hn2 gall
    have hbo1 := fun w' => hbo.out w' n hn2
    replace hrq1 := Lib.hid hrq1
    replace hbo1 := Lib.hid hbo1
    by_cases hle : sumI (fun s => reqI s n) l ≤ givI (rowI s) n
    · have hle2 : decide (sumI (fun s => reqI s n) l ≤ givI (rowI s) n) = true := decide_eq_true hle
      obtain ⟨v, hv⟩ : ∃ v, v = sumI (fun s => reqI s n) l := ⟨_, rfl⟩
      obtain ⟨u, hu⟩ : ∃ u, u = givI (rowI s) n := ⟨_, rfl⟩
      rw [← hv] at hrq1 hle2 r1 r2 hle
      rw [← hu] at hbo1 hle2 r3 r4 hle
      replace hv := Lib.hid hv
      replace hu := Lib.hid hu
      go_wp2_with fail
      refine hrq1.out.mono ?_
      rintro e w2 ⟨rfl, g2⟩
      obtain ⟨c2, f2, s2⟩ := g2.cells
      have k2 := fun o => c2 w.heap.size o (by omega)
      clear c2 f2
      go_wp2_with fail
      refine (hbo1.out _).mono ?_
      rintro e w3 ⟨rfl, g3⟩
      go_wp2_with fail
      go_ret2
      exact ⟨n, rfl, hn1, hn2, by rw [← hv.out, ← hu.out]; exact hle, (gall.trans g2).trans g3⟩
    · have hlt : n < 4096 := by
        by_cases h : n < 4096
        · exact h
        · obtain rfl : n = 4096 := by omega
          exact absurd hds.out hle
      have hle2 : decide (sumI (fun s => reqI s n) l ≤ givI (rowI s) n) = false := decide_eq_false hle
      have hle3 : givI (rowI s) n < sumI (fun s => reqI s n) l := by omega
      clear hle
      obtain ⟨v, hv⟩ : ∃ v, v = sumI (fun s => reqI s n) l := ⟨_, rfl⟩
      obtain ⟨u, hu⟩ : ∃ u, u = givI (rowI s) n := ⟨_, rfl⟩
      rw [← hv] at hrq1 hle2 r1 r2 hle3
      rw [← hu] at hbo1 hle2 r3 r4 hle3
      replace hv := Lib.hid hv
      replace hu := Lib.hid hu
      go_wp2_with fail
      refine hrq1.out.mono ?_
      rintro e w2 ⟨rfl, g2⟩
      obtain ⟨c2, f2, s2⟩ := g2.cells
      have k2 := fun o => c2 w.heap.size o (by omega)
      clear c2 f2
      go_wp2_with fail
      refine (hbo1.out _).mono ?_
      rintro e w3 ⟨rfl, g3⟩
      go_wp2_with fail
      go_roundw
      case rel => exact ⟨n + 1, by omega, by omega, by go_num, (hg.trans g2).trans g3⟩
      case measure => simp [intOf]; omega
end Go.Proofs.YtglfdnfojpdkjaaGreatDoor
