/- A map that counts servers, as the machine has it. -/
import Derived.Test.YtkfkfcfbcfcbkaaDoorA4
import Derived.Test.YtkfkfcfbcfcbkaaDoorL2
import Derived.Maps.Own
import Derived.WideKeyEntry
import Derived.DeepKeys4
import Derived.Outline
namespace Go.Proofs.YtkfkfcfbcfcbkaaDoor
open Go.ChangeShapes Go.WideShapes Go.RowKit Go.Deep Go.WideElems Go.MapKept
open Go.WideMaps (KeyLaw)
open Go.ChangeMaps (setBlock heap_setBlock_same modify_eq_set)

theorem Tryd.rowSrv : (27 : TypeId) < Tryd.prog.types.size := of_decide_eq_true (by kernel_rfl)
theorem Tryd.wideSrv : (match Tryd.prog.underlying 27 with | some (.array _ _) | some (.struct _) => true | _ => false) = true := by rw [Tryd.underlying27]
set_option maxRecDepth 100000 in
theorem Tryd.srvLaw : KeyLaw Tryd.prog 27 := deep_law_laid laidOut (m := 2) (by omega) Tryd.rowSrv (by kernel_rfl) Tryd.wideSrv
set_option maxRecDepth 100000 in
theorem Tryd.keySrv : Tryd.prog.keyType 27 = true := by kernel_rfl
theorem Tryd.cellsSrv : Tryd.prog.cellsOf 27 = 3 := by kernel_rfl
theorem Tryd.cellsInt : Tryd.prog.cellsOf 3 = 1 := by kernel_rfl

abbrev srvV (s : Srv) : Value := .agg #[.int .i64 s.k, .int .i64 s.q, .int .i64 s.t]
theorem wf_of_i64 {x : Int} (h : I64 x) : (Lit.int .i64 x).wf = true := by
  simp [Lit.wf, IntKind.min, IntKind.max, IntKind.signed, IntKind.bits]
  exact ⟨h.1, by have := h.2; omega⟩
def KeyOk (s : Srv) : Prop := I64 s.k ∧ I64 s.q ∧ I64 s.t
set_option maxRecDepth 100000 in
theorem key_ok {s : Srv} (h : KeyOk s) : ∃ kl, keyOf Tryd.prog 27 (srvV s) = some kl := by
  obtain ⟨h1, h2, h3⟩ := h
  have w1 := wf_of_i64 h1
  have w2 := wf_of_i64 h2
  have w3 := wf_of_i64 h3
  obtain ⟨m, hm⟩ : ∃ m, Tryd.prog.types.size = m + 1 := ⟨Tryd.prog.types.size - 1, (Nat.succ_pred_eq_of_pos (Nat.lt_of_le_of_lt (Nat.zero_le _) Tryd.rowSrv)).symm⟩
  unfold keyOf
  simp only [Tryd.underlying27]
  rw [if_pos (by simp [Tryd.keySrv, Value.formed, Tryd.underlying27, Tryd.cellsSrv]), hm]
  refine ⟨.string (keyBytes [.int .i64 s.k, .int .i64 s.q, .int .i64 s.t]), ?_⟩
  unfold Program.keyLits
  simp [Tryd.underlying27, Value.cells, Tryd.cellsSrv, Tryd.cellsInt, Program.keyLits, Tryd.underlying3, w1, w2, w3]

def sameS (a b : Srv) : Bool := a.k == b.k && a.q == b.q && a.t == b.t
theorem sameS_iff {a b : Srv} : sameS a b = true ↔ a = b := by
  obtain ⟨k, q, t⟩ := a
  obtain ⟨k', q', t'⟩ := b
  simp [sameS, and_assoc]
def cntS (l : List Srv) (s : Srv) : Nat := (l.filter (sameS s)).length
theorem cntS_snoc (l : List Srv) (s t : Srv) : cntS (l ++ [t]) s = cntS l s + if sameS s t = true then 1 else 0 := by
  unfold cntS
  rw [List.filter_append, List.length_append]
  cases h : sameS s t <;> simp [h]
theorem cntS_le (l : List Srv) (s : Srv) : cntS l s ≤ l.length := List.length_filter_le _ _
theorem cntS_zero {l : List Srv} {s : Srv} (h : s ∉ l) : cntS l s = 0 := by
  unfold cntS
  rw [List.length_eq_zero_iff, List.filter_eq_nil_iff]
  intro x hx hs
  rw [sameS_iff] at hs
  exact h (hs ▸ hx)
theorem srvV_inj {a b : Srv} (h : srvV a = srvV b) : a = b := by
  obtain ⟨k, q, t⟩ := a
  obtain ⟨k', q', t'⟩ := b
  simp [srvV] at h
  simp [h]
def valI : Value → Int
  | .int _ n => n
  | _ => 0

/-- The map's entries count the servers of l. -/
structure CInv (es : Array MapEntry) (clock : Nat) (l : List Srv) : Prop where
  size : es.size ≤ l.length
  st : Stamped es clock
  ent : ∀ e ∈ es.toList, ∃ s, s ∈ l ∧ e.key = srvV s ∧ e.val = .int .i64 (cntS l s)
  all : ∀ s ∈ l, ∃ e ∈ es.toList, e.key = srvV s
  sum : (es.toList.map fun e => valI e.val).sum = (l.length : Int)
theorem cinv_nil : CInv #[] 0 [] := ⟨Nat.le_refl _, stamped_empty 0, (fun _ h => by simp at h), (fun _ h => by cases h), rfl⟩

theorem sum_set {α : Type} (f : α → Int) : ∀ (l : List α) (j : Nat) (a b : α), l[j]? = some a → ((l.set j b).map f).sum = (l.map f).sum - f a + f b
  | [], _, _, _, h => by simp at h
  | x :: r, 0, a, b, h => by simp at h; subst h; simp; omega
  | x :: r, j + 1, a, b, h => by
    have := sum_set f r j a b (by simpa using h)
    simp only [List.set_cons_succ, List.map_cons, List.sum_cons, this]
    omega
theorem map_set_same {α β : Type} (f : α → β) : ∀ (l : List α) (j : Nat) (a b : α), l[j]? = some a → f b = f a → (l.set j b).map f = l.map f
  | [], _, _, _, h, _ => by simp at h
  | x :: r, 0, a, b, h, he => by simp at h; subst h; simp [he]
  | x :: r, j + 1, a, b, h, he => by simp [map_set_same f r j a b (by simpa using h) he]

theorem cinv_new {es : Array MapEntry} {clock : Nat} {l : List Srv} (I : CInv es clock l) (s : Srv) (h : ∀ e ∈ es.toList, e.key ≠ srvV s) : CInv (es.push ⟨srvV s, .int .i64 ((cntS l s : Nat) + 1), clock⟩) (clock + 1) (l ++ [s]) ∧ cntS l s = 0 := by
  have hn : s ∉ l := fun hs => by obtain ⟨e, he, hk⟩ := I.all s hs; exact h e he hk
  have h0 := cntS_zero hn
  obtain ⟨s1, s2, s3⟩ := I.st
  refine ⟨⟨by simp; exact I.size, ⟨?_, ?_, ?_⟩, ?_, ?_, ?_⟩, h0⟩
  · intro x hx
    simp only [Array.toList_push, List.mem_append, List.mem_singleton] at hx
    rcases hx with hx | rfl
    · exact Nat.lt_succ_of_lt (s1 x hx)
    · exact Nat.lt_succ_self _
  · simp only [Array.toList_push, List.map_append, List.map_cons, List.map_nil]
    refine List.nodup_append.2 ⟨s2, by simp, fun a ha c hc e1 => ?_⟩
    obtain ⟨x, hx, rfl⟩ := List.mem_map.1 ha
    rw [List.mem_singleton.1 hc] at e1
    have := s1 x hx
    omega
  · simp only [Array.toList_push, List.map_append, List.map_cons, List.map_nil]
    refine List.nodup_append.2 ⟨s3, by simp, fun a ha c hc e1 => ?_⟩
    obtain ⟨x, hx, rfl⟩ := List.mem_map.1 ha
    rw [List.mem_singleton.1 hc] at e1
    exact h x hx e1
  · intro x hx
    simp only [Array.toList_push, List.mem_append, List.mem_singleton] at hx
    rcases hx with hx | rfl
    · obtain ⟨t, ht, hk, hv⟩ := I.ent x hx
      refine ⟨t, List.mem_append_left _ ht, hk, ?_⟩
      have : sameS t s = false := by
        cases hh : sameS t s
        · rfl
        · rw [sameS_iff] at hh; subst hh; exact absurd ht hn
      rw [cntS_snoc, this]
      simpa using hv
    · refine ⟨s, List.mem_append_right _ (List.mem_singleton.2 rfl), rfl, ?_⟩
      rw [cntS_snoc, if_pos (sameS_iff.2 rfl)]
      push_cast
      rfl
  · intro t ht
    simp only [Array.toList_push]
    rcases List.mem_append.1 ht with ht | ht
    · obtain ⟨e, he, hk⟩ := I.all t ht; exact ⟨e, List.mem_append_left _ he, hk⟩
    · rw [List.mem_singleton.1 ht]; exact ⟨_, List.mem_append_right _ (List.mem_singleton.2 rfl), rfl⟩
  · rw [Array.toList_push, List.map_append, List.sum_append, I.sum, h0]
    simp [valI]

theorem cinv_old {es : Array MapEntry} {clock : Nat} {l : List Srv} (I : CInv es clock l) (s : Srv) {j : Nat} {e0 : MapEntry} (hj : es.toList[j]? = some e0) (hk : e0.key = srvV s) :
    CInv (es.modify j (fun e' => { e' with key := srvV s, val := .int .i64 ((cntS l s : Nat) + 1) })) clock (l ++ [s]) ∧ e0.val = .int .i64 (cntS l s) ∧ s ∈ l := by
  obtain ⟨s1, s2, s3⟩ := I.st
  obtain ⟨t0, ht0, hk0, hv0⟩ := I.ent e0 (List.mem_of_getElem? hj)
  obtain rfl : t0 = s := srvV_inj (hk0.symm.trans hk)
  have etl : (es.modify j (fun e' => { e' with key := srvV t0, val := .int .i64 ((cntS l t0 : Nat) + 1) })).toList = es.toList.set j ⟨srvV t0, .int .i64 ((cntS l t0 : Nat) + 1), e0.born⟩ := by
    rw [Array.toList_modify, modify_eq_set _ _ _ _ hj]
  refine ⟨⟨by simp; have := I.size; omega, ⟨?_, ?_, ?_⟩, ?_, ?_, ?_⟩, hv0, ht0⟩
  · rw [etl]
    intro x hx
    rcases List.mem_or_eq_of_mem_set hx with hx | rfl
    · exact s1 x hx
    · exact s1 e0 (List.mem_of_getElem? hj)
  · rw [etl, map_set_same (·.born) _ _ e0 ⟨srvV t0, .int .i64 ((cntS l t0 : Nat) + 1), e0.born⟩ hj rfl]; exact s2
  · rw [etl, map_set_same (·.key) _ _ e0 ⟨srvV t0, .int .i64 ((cntS l t0 : Nat) + 1), e0.born⟩ hj hk.symm]; exact s3
  · rw [etl]
    intro x hx
    obtain ⟨i, hi⟩ := List.mem_iff_getElem?.1 hx
    by_cases hij : j = i
    · subst hij
      rw [List.getElem?_set_self (get_lt hj)] at hi
      cases hi
      refine ⟨t0, List.mem_append_left _ ht0, rfl, ?_⟩
      rw [cntS_snoc, if_pos (sameS_iff.2 rfl)]
      push_cast
      rfl
    · rw [List.getElem?_set_ne hij] at hi
      obtain ⟨t, ht, hkt, hvt⟩ := I.ent x (List.mem_of_getElem? hi)
      refine ⟨t, List.mem_append_left _ ht, hkt, ?_⟩
      have : sameS t t0 = false := by
        cases hh : sameS t t0
        · rfl
        · rw [sameS_iff] at hh
          subst hh
          exfalso
          have k1 : (es.toList.map (·.key))[i]? = some (srvV t) := by rw [List.getElem?_map, hi]; exact congrArg some hkt
          have k2 : (es.toList.map (·.key))[j]? = some (srvV t) := by rw [List.getElem?_map, hj]; exact congrArg some hk
          exact hij ((List.getElem?_inj (by simpa using get_lt hj) s3).1 (k2.trans k1.symm))
      rw [cntS_snoc, this]
      simpa using hvt
  · intro t ht
    rw [etl]
    have hmem : ∀ e ∈ es.toList, ∃ e' ∈ es.toList.set j ⟨srvV t0, .int .i64 ((cntS l t0 : Nat) + 1), e0.born⟩, e'.key = e.key := by
      intro e he
      have h1 : e.key ∈ es.toList.map (·.key) := List.mem_map.2 ⟨e, he, rfl⟩
      rw [← map_set_same (·.key) _ _ e0 ⟨srvV t0, .int .i64 ((cntS l t0 : Nat) + 1), e0.born⟩ hj hk.symm] at h1
      obtain ⟨e', h2, h3⟩ := List.mem_map.1 h1
      exact ⟨e', h2, h3⟩
    rcases List.mem_append.1 ht with ht | ht
    · obtain ⟨e, he, hke⟩ := I.all t ht
      obtain ⟨e', h1, h2⟩ := hmem e he
      exact ⟨e', h1, h2.trans hke⟩
    · rw [List.mem_singleton.1 ht]
      obtain ⟨e', h1, h2⟩ := hmem e0 (List.mem_of_getElem? hj)
      exact ⟨e', h1, h2.trans hk⟩
  · rw [etl, sum_set _ _ _ e0 _ hj, I.sum, hv0]
    simp only [valI, List.length_append, List.length_singleton]
    push_cast
    omega
end Go.Proofs.YtkfkfcfbcfcbkaaDoor
