/- Demand, in plain numbers: what servers and tasks ask for. Nothing of the program is named here. -/
import Derived.Test.YtmookdgeblcjnaaDoorA2
namespace Go.Proofs.YtmookdgeblcjnaaDoor
open Go.RowKit

/-- A legal server's demand, its request. -/
def askedI (s : Srv) (l : Int) : Int := if s.k = 3 then l / s.t * s.q + min s.q (l % s.t) else l / s.t * s.q
def upI (a b : Int) : Int := (a + b - 1) / b
def reqI (s : Srv) (l : Int) : Int := if s.k = 3 ∧ 0 < l then upI l s.t * s.q + s.q else upI l s.t * s.q
def sumI {α : Type} (f : α → Int) (l : List α) : Int := l.foldl (fun n s => n + f s) 0
theorem sumI_snoc {α : Type} (f : α → Int) (l : List α) (s : α) : sumI f (l ++ [s]) = sumI f l + f s := by unfold sumI; rw [List.foldl_append]; rfl
theorem sumI_cons {α : Type} (f : α → Int) (l : List α) (s : α) : sumI f (s :: l) = f s + sumI f l := by
  have : ∀ (l : List α) (n : Int), l.foldl (fun n s => n + f s) n = n + sumI f l := by
    intro l
    induction l with
    | nil => intro n; simp [sumI]
    | cons x r ih => intro n; rw [List.foldl_cons, ih, show sumI f (x :: r) = r.foldl (fun n s => n + f s) (0 + f x) from rfl, ih]; omega
  rw [show sumI f (s :: l) = l.foldl (fun n s => n + f s) (0 + f s) from rfl, this]; omega
theorem sumI_le {α : Type} (f g : α → Int) (l : List α) (h : ∀ s ∈ l, f s ≤ g s) : sumI f l ≤ sumI g l := by
  induction l with
  | nil => exact Int.le_refl _
  | cons s r ih => rw [sumI_cons, sumI_cons]; have := h s (List.mem_cons_self ..); have := ih (fun x hx => h x (List.mem_cons_of_mem _ hx)); omega
theorem sumI_bd {α : Type} (f : α → Int) (l : List α) (b : Int) (h : ∀ s ∈ l, 0 ≤ f s ∧ f s ≤ b) : 0 ≤ sumI f l ∧ sumI f l ≤ l.length * b := by
  induction l with
  | nil => exact ⟨Int.le_refl _, by simp [sumI]⟩
  | cons s r ih =>
    rw [sumI_cons]
    have := h s (List.mem_cons_self ..)
    have := ih (fun x hx => h x (List.mem_cons_of_mem _ hx))
    have e : ((s :: r).length : Int) * b = r.length * b + b := by rw [List.length_cons]; push_cast; rw [Int.add_mul, Int.one_mul]
    rw [e]; omega

/-- The length is a number of the document's. -/
def LenOk (l : Int) : Prop := 0 ≤ l ∧ l ≤ 1099511627776
def Leg (s : Srv) : Prop := 1 ≤ s.k ∧ s.k ≤ 3 ∧ 1 ≤ s.q ∧ s.q ≤ s.t ∧ s.t ≤ 256

theorem quo_mul_le {l q t : Int} (hl : 0 ≤ l) (hq : 0 ≤ q) (ht : 1 ≤ t) (h : q ≤ t) : 0 ≤ l / t ∧ 0 ≤ l / t * q ∧ l / t * q ≤ l := by
  have h0 : 0 ≤ l / t := Int.ediv_nonneg hl (by omega)
  refine ⟨h0, Int.mul_nonneg h0 hq, ?_⟩
  have h1 : l / t * q ≤ l / t * t := Int.mul_le_mul_of_nonneg_left h h0
  have h2 := Int.ediv_mul_le l (show t ≠ 0 by omega)
  omega
theorem up_mul_le {l q t : Int} (hl : 0 ≤ l) (hq : 0 ≤ q) (ht : 1 ≤ t) (h : q ≤ t) : 0 ≤ upI l t ∧ 0 ≤ upI l t * q ∧ upI l t * q ≤ l + t - 1 := by
  unfold upI
  have := quo_mul_le (l := l + t - 1) (by omega) hq ht h
  exact this

theorem asked_bd {s : Srv} {l : Int} (hs : Leg s) (hl : LenOk l) : 0 ≤ askedI s l ∧ askedI s l ≤ 1099511627776 + 256 := by
  obtain ⟨_, _, h3, h4, h5⟩ := hs
  obtain ⟨l1, l2⟩ := hl
  have := quo_mul_le l1 (show 0 ≤ s.q by omega) (show 1 ≤ s.t by omega) h4
  have := Int.emod_nonneg l (show s.t ≠ 0 by omega)
  unfold askedI
  split <;> omega
theorem req_bd {s : Srv} {l : Int} (hs : Leg s) (hl : LenOk l) : 0 ≤ reqI s l ∧ reqI s l ≤ 1099511627776 + 512 := by
  obtain ⟨_, _, h3, h4, h5⟩ := hs
  obtain ⟨l1, l2⟩ := hl
  have := up_mul_le l1 (show 0 ≤ s.q by omega) (show 1 ≤ s.t by omega) h4
  unfold reqI
  split <;> omega

/-- A task's demand. -/
def taskI (t : Tsk) (l : Int) : Int := if l < t.d then 0 else ((l - t.d) / t.p + 1) * t.c
def LegT (t : Tsk) : Prop := 1 ≤ t.c ∧ t.c ≤ t.d ∧ t.d ≤ t.p ∧ t.p ≤ 256 ∧ 0 ≤ t.s ∧ t.s ≤ t.c
theorem task_bd {t : Tsk} {l : Int} (ht : LegT t) (hl : LenOk l) : 0 ≤ taskI t l ∧ taskI t l ≤ 1099511627776 + 256 := by
  obtain ⟨h1, h2, h3, h4, h5, h6⟩ := ht
  obtain ⟨l1, l2⟩ := hl
  unfold taskI
  split
  · omega
  · have := quo_mul_le (l := l - t.d) (q := t.c) (t := t.p) (by omega) (by omega) (by omega) (by omega)
    rw [Int.add_mul, Int.one_mul]; omega
end Go.Proofs.YtmookdgeblcjnaaDoor
