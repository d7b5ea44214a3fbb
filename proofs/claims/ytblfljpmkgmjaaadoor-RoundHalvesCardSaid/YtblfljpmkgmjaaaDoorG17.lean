/- RoundNewest: what the round knows, promise by promise. -/
import Derived.Test.YtblfljpmkgmjaaaDoorG16
namespace Go.Proofs.YtblfljpmkgmjaaaDoor
open Go.RowKit

abbrev nb : Bal := ⟨1099511627776, 6⟩
def nbase (N i : Nat) (x : Bal) (l : List Ent) : RndV := ⟨List.replicate i true ++ List.replicate (N - i) false, mk1.e, false, nb, 1, x, l, 1⟩
def ntold (N : Nat) (x : Bal) (l : List Ent) : RndV := ⟨List.replicate N false, mk1.e, false, nb, 2, x, l ++ [mk1.e], 1⟩
def nst (N i : Nat) (x : Bal) (l : List Ent) : RndV := if i < N / 2 + 1 then nbase N i x l else ntold N x l
/-- What a node tells in RoundNewest. -/
def Tells (l : List Ent) : Prop := l.length ≤ 1 ∧ ∀ e ∈ l, e.cl = 5 ∧ e.tasks = []
theorem tells_nil : Tells [] := ⟨Nat.zero_le _, fun _ h => by cases h⟩
theorem tells_pl {l : List Ent} (h : Tells l) : plE l 0 1 = -1 := by
  unfold plE
  have : l.findIdx? (isKey 0 1) = none := by
    rw [List.findIdx?_eq_none_iff]
    intro e he
    unfold isKey
    rw [(h.2 e he).1]
    rfl
  rw [this]
theorem nbegin (N : Nat) : (RndV.new N mk1.e false).begin nb = nst N 0 ⟨0, 0⟩ [] := by
  unfold nst
  rw [if_pos (by omega)]
  simp [RndV.begin, RndV.new, RndV.clr, nbase]
theorem nset (i m : Nat) : (List.replicate i true ++ List.replicate (m + 1) false).set i true = List.replicate (i + 1) true ++ List.replicate m false := by
  rw [List.set_append_right _ _ (by simp)]
  rw [List.replicate_succ, List.replicate_succ' (n := i)]
  simp
theorem npromise {N i : Nat} (hi : i < N / 2 + 1) (hN : 1 ≤ N) (x0 x : Bal) (l0 l : List Ent) (h0 : Tells l0) (h1 : Tells l) :
    (nst N i x0 l0).promise i nb x l = (true, if aboveB x x0 then nst N (i + 1) x l else nst N (i + 1) x0 l0) := by
  have hiN : i < N := by omega
  obtain ⟨m, hm⟩ : ∃ m, N - i = m + 1 := ⟨N - i - 1, by omega⟩
  have hst : nst N i x0 l0 = nbase N i x0 l0 := by unfold nst; rw [if_pos hi]
  have hh : (nbase N i x0 l0).hears 1 i nb = true := by
    have h5 : (List.replicate i true ++ List.replicate (N - i) false)[i]? = some false := by
      rw [List.getElem?_append_right (by simp), hm]
      simp
    refine decide_eq_true ⟨rfl, rfl, rfl, by omega, ?_⟩
    show (List.replicate i true ++ List.replicate (N - i) false)[((i : Int)).toNat]? = some false
    rw [Int.toNat_natCast]
    exact h5
  have hnote : ∀ (y : Bal) (k : List Ent), ({(nbase N i x0 l0).note i with nw := y, led := k} : RndV) = nbase N (i + 1) y k := by
    intro y k
    unfold RndV.note nbase
    simp only [Int.toNat_natCast]
    rw [hm, nset, show N - (i + 1) = m by omega]
  have hmost : ∀ (y : Bal) (k : List Ent), (nbase N (i + 1) y k).most = decide (N / 2 + 1 ≤ i + 1) := by
    intro y k
    unfold RndV.most nbase
    have e1 : (List.replicate (i + 1) true ++ List.replicate (N - (i + 1)) false).length = N := by simp; omega
    have e2 : (List.replicate (i + 1) true ++ List.replicate (N - (i + 1)) false).count true = i + 1 := by simp [List.count_append, List.count_replicate]
    rw [e1, e2]
  have htell : ∀ (y : Bal) (k : List Ent), Tells k → (nbase N (i + 1) y k).tell = ntold N y k := by
    intro y k hk
    unfold RndV.tell
    have e1 : (nbase N (i + 1) y k).an.length = N := by simp [nbase]; omega
    rw [if_neg (by simp [nbase]), if_pos (show plE (nbase N (i + 1) y k).led (nbase N (i + 1) y k).x.cl (nbase N (i + 1) y k).x.nu = -1 from tells_pl hk), if_pos (show (nbase N (i + 1) y k).led.length < 64 by have := hk.1; show k.length < 64; omega)]
    unfold RndV.clr
    rw [e1]
    rfl
  have hfin : ∀ (y : Bal) (k : List Ent), Tells k → (if (nbase N (i + 1) y k).most then (nbase N (i + 1) y k).tell else nbase N (i + 1) y k) = nst N (i + 1) y k := by
    intro y k hk
    rw [hmost, htell y k hk]
    unfold nst
    by_cases hlt : i + 1 < N / 2 + 1
    · rw [if_pos hlt, decide_eq_false (by omega)]; rfl
    · rw [if_neg hlt, decide_eq_true (by omega)]; rfl
  rw [hst]
  unfold RndV.promise
  rw [hh, if_pos rfl]
  unfold RndV.hearNew
  cases ha : aboveB x x0 with
  | true =>
    rw [show aboveB x (nbase N i x0 l0).nw = true from ha, if_pos rfl, hnote x l, hfin x l h1]
    rfl
  | false =>
    have := hnote x0 l0
    rw [show ({(nbase N i x0 l0).note i with nw := x0, led := l0} : RndV) = (nbase N i x0 l0).note i from rfl] at this
    rw [show aboveB x (nbase N i x0 l0).nw = false from ha, this]
    have h2 := hfin x0 l0 h0
    show (true, (if (nbase N (i + 1) x0 l0).most then (nbase N (i + 1) x0 l0).tell else nbase N (i + 1) x0 l0)) = (true, nst N (i + 1) x0 l0)
    rw [h2]
theorem nplace (N : Nat) (x : Bal) (l : List Ent) (h : Tells l) : (ntold N x l).place = (l.length : Int) + 1 := by
  unfold RndV.place
  rw [if_pos (by simp [RndV.told, ntold]), if_neg (by simp [ntold])]
  show plE (l ++ [mk1.e]) 0 1 + 1 = _
  unfold plE
  have : (l ++ [mk1.e]).findIdx? (isKey 0 1) = some l.length := by
    rw [List.findIdx?_eq_some_iff_getElem]
    refine ⟨by simp, by simp [isKey], fun j hj => ?_⟩
    rw [List.getElem_append_left hj]
    unfold isKey
    rw [(h.2 _ (List.getElem_mem hj)).1]
    simp
  rw [this]
theorem nledger (N : Nat) (x : Bal) (l : List Ent) : (ntold N x l).ledger = l ++ [mk1.e] := by
  unfold RndV.ledger
  rw [if_pos (by simp [RndV.told, ntold])]
  rfl
end Go.Proofs.YtblfljpmkgmjaaaDoor
