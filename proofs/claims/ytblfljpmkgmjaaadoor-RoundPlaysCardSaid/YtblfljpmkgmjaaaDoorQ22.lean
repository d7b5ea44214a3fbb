/- A ledger of one's own, all of whose rows can be written. Printed by gen_q22.py. -/
import Derived.Test.YtblfljpmkgmjaaaDoorQ21
namespace Go.Proofs.YtblfljpmkgmjaaaDoor
open Go.RowKit
variable {K0 : Nat → Prop}

/-- A ledger in blocks from B on; nothing of it is frozen; no entry's tasks lie in the ledger's own row. -/
def WLed (B : Nat) (w : World) (a : Option Addr) (L : List EntM) : Prop := LedM (fun b => B ≤ b) w a L ∧ (∀ ad, a = some ad → L ≠ [] → ∀ o, w.frozen? ⟨ad.block, o, none⟩ = false) ∧ ∀ x ∈ L, ∀ ad, x.a = some ad → x.e.tasks ≠ [] → (∀ o, w.frozen? ⟨ad.block, o, none⟩ = false) ∧ ∀ ad2, a = some ad2 → ad.block ≠ ad2.block
theorem WLed.nil (B : Nat) (w : World) : WLed B w none [] := ⟨LedM.nil _ _ _, (fun _ h => by cases h), fun _ h => by cases h⟩
theorem wled_of {B : Nat} {w : World} {a : Option Addr} {L : List EntM} {c : Nat} (l : LedM (fun b => B ≤ b) w a L) (o : w.ownsRow B 36 10 (.slice a L.length c) L.length (L.flatMap EntM.cells)) (d : ∀ x ∈ L, ∀ ad, x.a = some ad → x.e.tasks ≠ [] → (Value.slice a L.length c).ownBlock ≠ some ad.block) (f : ∀ x ∈ L, ∀ ad, x.a = some ad → x.e.tasks ≠ [] → ∀ o, w.frozen? ⟨ad.block, o, none⟩ = false) : WLed B w a L :=
  ⟨l, fun ad ha _ o' => owns_free o ha o', fun x hx ad ha ht => ⟨f x hx ad ha ht, fun ad2 h2 e => d x hx ad ha ht (by rw [h2, e]; rfl)⟩⟩
/-- A ledger made anew, that can be written. -/
def NewW (L : List Ent) (w : World) (e : Ending) (w' : World) : Prop :=
  ∃ a c L', e = .returned (.slice a L'.length c) ∧ L'.map (·.e) = L ∧ WLed w.heap.size w' a L' ∧ (a = none → c = 0) ∧ L'.length ≤ c ∧ c ≤ maxLen ∧ Gr w w'
theorem rcopyW_any (a : Option Addr) (c : Nat) (L : List EntM) (w : World) (h : LedM Any w a L) (hm : L.length * 96 ≤ 140737488351232) :
    Calls Tryd.prog 20 #[.slice a L.length c] w (NewW (L.map (·.e)) w) :=
  (rcopyF_any a c L w h hm).mono fun e w' ⟨a1, c1, L1, he, m1, l1, n1, q1, q2, g1, o1, d1, fr1⟩ => by
    have hL1 : L1.length = L.length := by simpa using congrArg List.length m1
    exact ⟨a1, c1, L1, by rw [hL1]; exact he, m1, wled_of l1 o1 d1 fr1, n1, by omega, q2, g1⟩
set_option maxRecDepth 100000 in
set_option maxHeartbeats 1600000 in
theorem ledgerW_any (R : Rnd) (w : World) (rb ab : Nat) (h : RndAt K0 w rb ab R) :
    Calls Tryd.prog 22 #[.pointer (some ⟨rb, 0, none⟩)] w (NewW R.v.ledger w) := by
  have z0 := h.o.lt
  have ht := told_any R w rb ab h
  have c17 : w.cell? ⟨rb, 17, none⟩ = some (.slice R.la R.led.length R.lc) := h.o.cell rfl
  have hc := copiedF_any R.la R.lc R.led w h.l.any h.cap
  replace hc := Lib.hid hc
  unfold RndV.ledger
  cases hh : R.v.told with
  | false =>
    rw [hh] at ht
    rw [if_neg (by decide)]
    replace ht := Lib.hid ht
    replace hh := Lib.hid hh
    clear h
    go_enter Tryd.func22, Tryd.ntmps22
    go_wp2_with fail
    refine ht.out.mono ?_
    rintro e w1 ⟨rfl, rfl⟩
    go_wp2_with fail
    go_ret
    exact ⟨none, 0, [], rfl, rfl, WLed.nil _ _, (fun _ => rfl), Nat.le_refl _, by unfold maxLen; omega, Gr.refl _⟩
  | true =>
    rw [hh] at ht
    rw [if_pos rfl]
    replace ht := Lib.hid ht
    replace hh := Lib.hid hh
    clear h
    go_enter Tryd.func22, Tryd.ntmps22
    go_wp2_with fail
    refine ht.out.mono ?_
    rintro e w1 ⟨rfl, rfl⟩
    go_wp2_with fail
    refine hc.out.mono ?_
    rintro e w1 ⟨a1, c1, L1, rfl, m1, l1, n1, q1, q2, g1, o1, d1, fr1⟩
    have hL1 : L1.length = R.led.length := by simpa using congrArg List.length m1
    replace m1 := Lib.hid m1
    have hW := wled_of l1 o1 d1 fr1
    replace hW := Lib.hid hW
    clear d1 o1 fr1 l1
    go_wp2_with fail
    go_ret
    exact ⟨a1, c1, L1, by rw [hL1]; rfl, m1.out, hW.out, n1, by omega, q2, g1⟩
end Go.Proofs.YtblfljpmkgmjaaaDoor
