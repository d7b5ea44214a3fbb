/- almonerref20: InForm, SameAsk. Printed by gen_p36.py. -/
import Derived.Test.YtlgbnjaoadlolaaDoorP7
import Derived.Test.YtlgbnjaoadlolaaDoorG22
namespace Go.Proofs.YtlgbnjaoadlolaaDoor
open Go.RowKit

set_option maxRecDepth 100000 in
set_option maxHeartbeats 6400000 in
theorem sameOrder0_any (e : Ent) (a : Option Addr) (c : Nat) (w : World) :
    Calls Tryd.prog 39 #[.agg #[.int .i64 e.kd, .int .i64 e.id, .int .i64 e.srv.k, .int .i64 e.srv.q, .int .i64 e.srv.t, .int .i64 e.po, .slice a e.tasks.length c, .int .i64 e.at_], .agg #[.int .i64 0, .int .i64 0, .int .i64 0, .int .i64 0, .int .i64 0, .int .i64 0, .slice none 0 0, .int .i64 0]] w fun x w' => x = .returned (.bool (zoB e)) ∧ Gr w w' := by
  have gw := ((Gr.refl w).alloc (.cells #[.int .i64 e.kd, .int .i64 e.id, .int .i64 e.srv.k, .int .i64 e.srv.q, .int .i64 e.srv.t, .int .i64 e.po, .slice a e.tasks.length c, .int .i64 e.at_] 29)).alloc (.cells #[.int .i64 0, .int .i64 0, .int .i64 0, .int .i64 0, .int .i64 0, .int .i64 0, .slice none 0 0, .int .i64 0] 29)
  have hs := fun w => srv_neq e.srv ⟨0, 0, 0⟩ w
  dsimp only at hs
  replace gw := Lib.hid gw
  obtain ⟨Z, hz⟩ : ∃ Z, zoB e = Z := ⟨_, rfl⟩
  rw [hz]
  by_cases q1 : e.kd = 0
  case neg =>
    have t1 : (e.kd != 0) = true := by simpa using q1
    obtain rfl : false = Z := zo_no (Lib.hid hz.symm) (fun h => q1 h.1)
    replace hz := Lib.hid hz
    clear q1 hs
    go_enter Tryd.func39, Tryd.ntmps39
    go_wp2_with fail
    go_ret
    exact ⟨rfl, gw.out⟩
  by_cases q2 : e.id = 0
  case neg =>
    have t1 : (e.kd != 0) = false := by rw [q1]; rfl
    have t2 : (e.id != 0) = true := by simpa using q2
    obtain rfl : false = Z := zo_no (Lib.hid hz.symm) (fun h => q2 h.2.1)
    replace hz := Lib.hid hz
    clear q1 q2 hs
    go_enter Tryd.func39, Tryd.ntmps39
    go_wp2_with fail
    go_ret
    exact ⟨rfl, gw.out⟩
  by_cases q3 : e.srv.k = 0 ∧ e.srv.q = 0 ∧ e.srv.t = 0
  case neg =>
    have t1 : (e.kd != 0) = false := by rw [q1]; rfl
    have t2 : (e.id != 0) = false := by rw [q2]; rfl
    rw [decide_eq_false q3] at hs
    obtain rfl : false = Z := zo_no (Lib.hid hz.symm) (fun h => q3 h.2.2.1)
    replace hz := Lib.hid hz
    clear q1 q2 q3
    go_enter Tryd.func39, Tryd.ntmps39
    go_wp2_with fail
    go_ret
    exact ⟨rfl, gw.out⟩
  rw [decide_eq_true q3] at hs
  by_cases q4 : e.po = 0
  case neg =>
    have t1 : (e.kd != 0) = false := by rw [q1]; rfl
    have t2 : (e.id != 0) = false := by rw [q2]; rfl
    have t4 : (e.po != 0) = true := by simpa using q4
    obtain rfl : false = Z := zo_no (Lib.hid hz.symm) (fun h => q4 h.2.2.2.1)
    replace hz := Lib.hid hz
    clear q1 q2 q3 q4
    go_enter Tryd.func39, Tryd.ntmps39
    go_wp2_with fail
    go_ret
    exact ⟨rfl, gw.out⟩
  by_cases q5 : e.at_ = 0
  case neg =>
    have t1 : (e.kd != 0) = false := by rw [q1]; rfl
    have t2 : (e.id != 0) = false := by rw [q2]; rfl
    have t4 : (e.po != 0) = false := by rw [q4]; rfl
    have t5 : (e.at_ != 0) = true := by simpa using q5
    obtain rfl : false = Z := zo_no (Lib.hid hz.symm) (fun h => q5 h.2.2.2.2.1)
    replace hz := Lib.hid hz
    clear q1 q2 q3 q4 q5
    go_enter Tryd.func39, Tryd.ntmps39
    go_wp2_with fail
    go_ret
    exact ⟨rfl, gw.out⟩
  have t1 : (e.kd != 0) = false := by rw [q1]; rfl
  have t2 : (e.id != 0) = false := by rw [q2]; rfl
  have t4 : (e.po != 0) = false := by rw [q4]; rfl
  have t5 : (e.at_ != 0) = false := by rw [q5]; rfl
  by_cases q6 : e.tasks.length = 0
  case neg =>
    have t6 : ((e.tasks.length : Int) != 0) = true := by simpa using q6
    obtain rfl : false = Z := zo_no (Lib.hid hz.symm) (fun h => q6 h.2.2.2.2.2)
    replace hz := Lib.hid hz
    clear q1 q2 q3 q4 q5
    go_enter Tryd.func39, Tryd.ntmps39
    go_wp2_with fail
    go_ret
    exact ⟨rfl, gw.out⟩
  obtain rfl : true = Z := by rw [← hz]; exact ((zo_iff e).2 ⟨q1, q2, q3, q4, q5, q6⟩).symm
  obtain ⟨n, hn⟩ : ∃ n, e.tasks.length = n := ⟨_, rfl⟩
  have t6 : ((e.tasks.length : Int) != 0) = false := by rw [q6]; rfl
  have t7 : ¬ (0 : Int) < e.tasks.length := by omega
  replace hz := Lib.hid hz
  replace hn := Lib.hid hn
  replace q6 := Lib.hid q6
  clear q1 q2 q3 q4 q5
  go_enter Tryd.func39, Tryd.ntmps39
  go_wp2_with fail
  go_loop [51] (fun kv => kv = .int .i64 0) (fun _ => 0)
  case atStart => rfl
  case round =>
    subst hrel
    go_wp2_with fail
    go_ret
    exact ⟨rfl, gw.out⟩
set_option maxRecDepth 100000 in
set_option maxHeartbeats 6400000 in
theorem rInForm20_any (k : Int) (e : Ent) (a : Option Addr) (c : Nat) (w : World) (h : (⟨e, a, c⟩ : EntM).ok Any w) :
    Calls Tryd.prog 19 #[.agg #[.int .i64 k, .int .i64 e.cl, .int .i64 e.nu, .int .i64 e.kd, .int .i64 e.id, .int .i64 e.srv.k, .int .i64 e.srv.q, .int .i64 e.srv.t, .int .i64 e.po, .slice a e.tasks.length c, .int .i64 e.at_]] w fun x w' => x = .returned (.bool (askF k e)) ∧ Gr w w' := by
  obtain ⟨F, hF⟩ : ∃ F, askF k e = F := ⟨_, rfl⟩
  have gw := (Gr.refl w).alloc (.cells #[.int .i64 k, .int .i64 e.cl, .int .i64 e.nu, .int .i64 e.kd, .int .i64 e.id, .int .i64 e.srv.k, .int .i64 e.srv.q, .int .i64 e.srv.t, .int .i64 e.po, .slice a e.tasks.length c, .int .i64 e.at_] 31)
  by_cases h1 : k = 1
  · have hF1 : F = entF e := by rw [← hF, h1]; unfold askF; simp
    have t1 : (k == 1) = true := by simpa using h1
    have hen := fun w1 => rentry_any k ⟨e, a, c⟩ w1
    dsimp only at hen
    have hin := fun w1 (g : Gr w w1) => inForm_any e a c w1 (h.gr g)
    rw [← hF1] at hin
    rw [hF]
    replace hF := Lib.hid hF
    replace hF1 := Lib.hid hF1
    replace h1 := Lib.hid h1
    replace h := Lib.hid h
    replace hen := Lib.hid hen
    replace hin := Lib.hid hin
    replace gw := Lib.hid gw
    go_enter Tryd.func19, Tryd.ntmps19
    go_wp2_with fail
    refine (hen.out _).mono ?_
    rintro r w1 ⟨rfl, g1⟩
    go_wp2_with fail
    refine (hin.out _ (gw.out.trans g1)).mono ?_
    rintro r w2 ⟨rfl, g2⟩
    go_wp2_with fail
    go_ret
    exact ⟨rfl, (gw.out.trans g1).trans g2⟩
  · have t1 : (k == 1) = false := by simpa using h1
    by_cases h2 : k = 2
    · have t2 : (k == 2) = true := by simpa using h2
      have hF2 : F = (zoB e && decide (0 ≤ e.cl ∧ e.cl < 16 ∧ 1 ≤ e.nu ∧ e.nu ≤ 1099511627776)) := by rw [← hF, h2]; unfold askF; simp
      rw [hF]
      replace hF := Lib.hid hF
      replace h := Lib.hid h
      replace gw := Lib.hid gw
      replace h1 := Lib.hid h1
      replace h2 := Lib.hid h2
      by_cases n1 : 0 ≤ e.cl
      case neg =>
        have hf : F = false := by rw [hF2, decide_eq_false (fun e => n1 e.1), Bool.and_false]
        replace hF2 := Lib.hid hF2
        replace hf := Lib.hid hf
        go_enter Tryd.func19, Tryd.ntmps19
        go_wp2_with fail
        go_ret
        exact ⟨retb hf.out.symm, gw.out⟩
      by_cases n2 : e.cl < 16
      case neg =>
        have hf : F = false := by rw [hF2, decide_eq_false (fun e => n2 e.2.1), Bool.and_false]
        have n2' : ¬ e.cl ≤ 15 := by omega
        replace hF2 := Lib.hid hF2
        replace hf := Lib.hid hf
        go_enter Tryd.func19, Tryd.ntmps19
        go_wp2_with fail
        go_ret
        exact ⟨retb hf.out.symm, gw.out⟩
      have n2' : e.cl ≤ 15 := by omega
      by_cases n3 : 1 ≤ e.nu
      case neg =>
        have hf : F = false := by rw [hF2, decide_eq_false (fun e => n3 e.2.2.1), Bool.and_false]
        replace hF2 := Lib.hid hF2
        replace hf := Lib.hid hf
        go_enter Tryd.func19, Tryd.ntmps19
        go_wp2_with fail
        go_ret
        exact ⟨retb hf.out.symm, gw.out⟩
      by_cases n4 : e.nu ≤ 1099511627776
      case neg =>
        have hf : F = false := by rw [hF2, decide_eq_false (fun e => n4 e.2.2.2), Bool.and_false]
        replace hF2 := Lib.hid hF2
        replace hf := Lib.hid hf
        go_enter Tryd.func19, Tryd.ntmps19
        go_wp2_with fail
        go_ret
        exact ⟨retb hf.out.symm, gw.out⟩
      rw [decide_eq_true ⟨n1, n2, n3, n4⟩, Bool.and_true] at hF2
      have hso := fun w1 => sameOrder0_any e a c w1
      rw [← hF2] at hso
      replace hF2 := Lib.hid hF2
      replace hso := Lib.hid hso
      go_enter Tryd.func19, Tryd.ntmps19
      go_wp2_with fail
      refine (hso.out _).mono ?_
      rintro r w2 ⟨rfl, g2⟩
      go_wp2_with fail
      go_ret
      exact ⟨rfl, gw.out.trans g2⟩
    · have t2 : (k == 2) = false := by simpa using h2
      have hf : askF k e = false := by unfold askF; rw [decide_eq_false h1, decide_eq_false h2]; rfl
      rw [hf]
      replace hF := Lib.hid hF
      replace hf := Lib.hid hf
      replace gw := Lib.hid gw
      replace h1 := Lib.hid h1
      replace h2 := Lib.hid h2
      go_enter Tryd.func19, Tryd.ntmps19
      go_wp2_with fail
      go_ret
      exact ⟨rfl, gw.out⟩
set_option maxRecDepth 100000 in
set_option maxHeartbeats 6400000 in
theorem rSameAsk_eq (k : Int) (e : Ent) (a : Option Addr) (c : Nat) (a2 : Option Addr) (c2 : Nat) (w : World) (h1 : (⟨e, a, c⟩ : EntM).ok Any w) (h2 : (⟨e, a2, c2⟩ : EntM).ok Any w) :
    Calls Tryd.prog 18 #[.agg #[.int .i64 k, .int .i64 e.cl, .int .i64 e.nu, .int .i64 e.kd, .int .i64 e.id, .int .i64 e.srv.k, .int .i64 e.srv.q, .int .i64 e.srv.t, .int .i64 e.po, .slice a e.tasks.length c, .int .i64 e.at_], .agg #[.int .i64 k, .int .i64 e.cl, .int .i64 e.nu, .int .i64 e.kd, .int .i64 e.id, .int .i64 e.srv.k, .int .i64 e.srv.q, .int .i64 e.srv.t, .int .i64 e.po, .slice a2 e.tasks.length c2, .int .i64 e.at_]] w fun x w' => x = .returned (.bool true) ∧ Gr w w' := by
  have gw := ((Gr.refl w).alloc (.cells #[.int .i64 k, .int .i64 e.cl, .int .i64 e.nu, .int .i64 e.kd, .int .i64 e.id, .int .i64 e.srv.k, .int .i64 e.srv.q, .int .i64 e.srv.t, .int .i64 e.po, .slice a e.tasks.length c, .int .i64 e.at_] 31)).alloc (.cells #[.int .i64 k, .int .i64 e.cl, .int .i64 e.nu, .int .i64 e.kd, .int .i64 e.id, .int .i64 e.srv.k, .int .i64 e.srv.q, .int .i64 e.srv.t, .int .i64 e.po, .slice a2 e.tasks.length c2, .int .i64 e.at_] 31)
  have hso := fun w1 (g : Gr w w1) => sameOrder_eq e a a2 c c2 w1 (h1.gr g) (h2.gr g)
  replace gw := Lib.hid gw
  replace h1 := Lib.hid h1
  replace h2 := Lib.hid h2
  replace hso := Lib.hid hso
  go_enter Tryd.func18, Tryd.ntmps18
  go_wp2_with fail
  refine (hso.out _ gw.out).mono ?_
  rintro r w2 ⟨rfl, g2⟩
  go_wp2_with fail
  go_ret
  exact ⟨rfl, gw.out.trans g2⟩
end Go.Proofs.YtlgbnjaoadlolaaDoor
