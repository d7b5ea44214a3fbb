/- RoundReads: the walk. -/
import Derived.Test.YtblfljpmkgmjaaaDoorG15
namespace Go.Proofs.YtblfljpmkgmjaaaDoor
open Go.RowKit

abbrev no1 : EntM := ⟨⟨0, 0, 0, 0, ⟨0, 0, 0⟩, 0, [], 0⟩, none, 0⟩
theorem no1_ok (K : Nat → Prop) (w : World) : no1.ok K w := ⟨RecsIn.nil _ _ _ _ _, fun _ => rfl, Nat.le_refl _, Nat.zero_le _, by simp⟩
theorem new_no1 (w : World) : Calls Tryd.prog 12 #[.int .i64 1, .agg #[.int .i64 0, .int .i64 0, .int .i64 0, .int .i64 0, .int .i64 0, .int .i64 0, .int .i64 0, .int .i64 0, .slice none 0 0, .int .i64 0], .bool true] w (NewRnd 1 no1.e true w) :=
  new_any 1 no1 true w (no1_ok _ _) (by omega) (by omega) (fun h => by cases h)

/-- The round of RoundReads: begun, told, done. -/
def rd1 (b : Bal) : RndV := (RndV.new 1 no1.e true).begin b
def rd2 (b t : Bal) (l : List Ent) : RndV := ⟨[false], no1.e, true, b, 2, t, l, 1⟩
def rd3 (b t : Bal) (l : List Ent) : RndV := ⟨[true], no1.e, true, b, 3, t, l, 1⟩
theorem rd_promise (b t : Bal) (l : List Ent) (ht : balB t = true) : (rd1 b).promise 0 b t l = (true, rd2 b t l) := by
  obtain ⟨h1, h2, h3, h4⟩ := of_decide_eq_true ht
  have ha : aboveB t ⟨0, 0⟩ = true := decide_eq_true (.inl (by show (0 : Int) < t.r; omega))
  have hh : (rd1 b).hears 1 0 b = true := by simp [RndV.hears, rd1, RndV.begin, RndV.new, RndV.clr]
  have hn : (rd1 b).hearNew 0 t l = ⟨[true], no1.e, true, b, 1, t, l, 1⟩ := by
    unfold RndV.hearNew
    rw [show (rd1 b).nw = ⟨0, 0⟩ from rfl, ha]
    rfl
  have hm : RndV.most ⟨[true], no1.e, true, b, 1, t, l, 1⟩ = true := by simp [RndV.most]
  unfold RndV.promise
  rw [hh, hn, hm]
  rfl
theorem rd_accepted (b t : Bal) (l : List Ent) : (rd2 b t l).accepted 0 b = (true, rd3 b t l) := by
  have hh : (rd2 b t l).hears 2 0 b = true := by simp [RndV.hears, rd2]
  have hm : ((rd2 b t l).note 0).most = true := by simp [RndV.most, RndV.note, rd2]
  unfold RndV.accepted
  rw [hh, hm]
  rfl

section
variable {G : List Nat} {E : Nat → Addr} {W0 : World} {R : Rnd} {w : World} {rb ab : Nat} {b t : Bal} {l : List Ent}
theorem rd_1 (h : Stand Any W0 w rb ab R) (hv : R.v = RndV.new 1 no1.e true) (hb : balB b = true) : Calls Tryd.prog 14 #[.pointer (some ⟨rb, 0, none⟩), .agg #[.int .i64 b.r, .int .i64 b.n]] w (StP Any W0 rb ab .nilIface (rd1 b) w) := by
  obtain ⟨h1, h2, h3, h4⟩ := of_decide_eq_true hb
  have := begin_st h b (by rw [hv]; decide) hb (by rw [hv]; exact decide_eq_true (.inl (by show (0 : Int) < b.r; omega))) (by rw [hv]; decide) (by rw [hv]; decide)
  rw [hv] at this
  exact this
theorem rd_2 (hE : EAt G E W0) (i6 : 6 ∈ G) (i8 : 8 ∈ G) (h : Stand Any W0 w rb ab R) (hv : R.v = rd1 b) (ht : balB t = true) (a : Option Addr) (c n : Nat) (L : List EntM) (hn : L.length = n) (hl : L.map (·.e) = l) (hL : LedM (fun b => b ≠ rb ∧ b ≠ ab) w a L) (hcap : L.length * 96 ≤ 140737488351232) :
    Calls Tryd.prog 18 #[.pointer (some ⟨rb, 0, none⟩), .int .i64 0, .agg #[.int .i64 b.r, .int .i64 b.n], .agg #[.int .i64 t.r, .int .i64 t.n], .slice a n c] w (StP Any W0 rb ab (.bool true) (rd2 b t l) w) := by
  have := promise_st hE i6 i8 (fun _ _ => trivial) h 0 b t a c L hL hcap
  rw [hv, hl, rd_promise b t l ht, hn] at this
  exact this
theorem rd_3 (h : Stand Any W0 w rb ab R) (hv : R.v = rd2 b t l) : Calls Tryd.prog 16 #[.pointer (some ⟨rb, 0, none⟩)] w fun e w' => e = .returned (.int .i64 2) ∧ w = w' := by
  have := stage_any R w rb ab h.r
  rw [show R.st = 2 by rw [show R.st = R.v.st from rfl, hv]; rfl] at this
  exact this
theorem rd_4 (h : Stand Any W0 w rb ab R) (hv : R.v = rd2 b t l) : Calls Tryd.prog 22 #[.pointer (some ⟨rb, 0, none⟩)] w (NewLed l w) := by
  have := ledger_any R w rb ab h.r
  rw [hv] at this
  exact this
theorem rd_5 (hE : EAt G E W0) (i6 : 6 ∈ G) (h : Stand Any W0 w rb ab R) (hv : R.v = rd2 b t l) (n : Nat) (hn : l.length = n) : Calls Tryd.prog 23 #[.pointer (some ⟨rb, 0, none⟩)] w fun e w' => e = .returned (.int .i64 n) ∧ Gr w w' := by
  have := place19_any W0 hE i6 R w rb ab h.r h.g
  rw [hv, show (rd2 b t l).place = (l.length : Int) from rfl, hn] at this
  exact this
theorem rd_6 (h : Stand Any W0 w rb ab R) (hv : R.v = rd2 b t l) : Calls Tryd.prog 25 #[.pointer (some ⟨rb, 0, none⟩), .int .i64 0, .agg #[.int .i64 b.r, .int .i64 b.n]] w (StP Any W0 rb ab (.bool true) (rd3 b t l) w) := by
  have := accepted_st h 0 b
  rw [hv, rd_accepted] at this
  exact this
theorem rd_7 (h : Stand Any W0 w rb ab R) (hv : R.v = rd3 b t l) : Calls Tryd.prog 16 #[.pointer (some ⟨rb, 0, none⟩)] w fun e w' => e = .returned (.int .i64 3) ∧ w = w' := by
  have := stage_any R w rb ab h.r
  rw [show R.st = 3 by rw [show R.st = R.v.st from rfl, hv]; rfl] at this
  exact this
theorem rd_8 (hE : EAt G E W0) (i0 : 0 ∈ G) (h : Stand Any W0 w rb ab R) (hv : R.v = rd3 b t l) (x : Bal) : Calls Tryd.prog 14 #[.pointer (some ⟨rb, 0, none⟩), .agg #[.int .i64 x.r, .int .i64 x.n]] w fun e w' => e = .returned (Value.iface 194 (.pointer (some (E 0)))) ∧ Gr w w' :=
  begin_state R x w rb ab (hE.gr h.g) i0 h.r (by rw [show R.st = R.v.st from rfl, hv, show (rd3 b t l).st = 3 from rfl]; decide)
end

set_option maxRecDepth 100000 in
set_option maxHeartbeats 6400000 in
theorem roundReads_any {G : List Nat} {E : Nat → Addr} (W : World) (hE : EAt G E W) (i0 : 0 ∈ G) (i6 : 6 ∈ G) (i8 : 8 ∈ G) (a : Option Addr) (c : Nat) (L : List EntM) (t : Bal) (h : LedM Any W a L) :
    Calls Tryd.prog 5 #[.slice a L.length c, .agg #[.int .i64 t.r, .int .i64 t.n]] W fun e w' => e = .returned (.bool true) ∧ Gr W w' := by
  have gw := (Gr.refl W).alloc (.cells #[.int .i64 t.r, .int .i64 t.n] 39)
  have hal := alive19_any _ (hE.gr gw) i6 i8
  have hle := rlegal18_any t
  replace hal := Lib.hid hal
  cases hb : balB t with
  | false =>
    rw [hb] at hle
    replace hle := Lib.hid hle
    replace hb := Lib.hid hb
    go_enter Tryd.func5, Tryd.ntmps5
    go_wp2_with fail
    refine (hal.out).mono ?_
    rintro e w1 ⟨rfl, g1⟩
    obtain ⟨c1, f1, s1⟩ := g1.cells
    try simp only [size_drewN] at c1 f1 s1
    try simp only [World.size_alloc] at c1 f1 s1
    try simp only [World.size_drew] at c1 f1 s1
    try simp only [World.size_setCell] at c1 f1 s1
    have z10 : W.heap.size < w1.heap.size := by omega
    have y10 : W.heap.size ≤ w1.heap.size := by omega
    have k10 := fun o => c1 (W.heap.size) o (by omega)
    have j10 := fun o => f1 (W.heap.size) o (by omega)
    go_wp2_with fail
    refine (hle.out _).mono ?_
    rintro e w2 ⟨rfl, g2⟩
    obtain ⟨c2, f2, s2⟩ := g2.cells
    try simp only [size_drewN] at c2 f2 s2
    try simp only [World.size_alloc] at c2 f2 s2
    try simp only [World.size_drew] at c2 f2 s2
    try simp only [World.size_setCell] at c2 f2 s2
    have z20 : W.heap.size < w2.heap.size := by omega
    have y20 : W.heap.size ≤ w2.heap.size := by omega
    have k20 := fun o => c2 (W.heap.size) o (by omega)
    have j20 := fun o => f2 (W.heap.size) o (by omega)
    go_wp2_with fail
    go_ret
    exact ⟨rfl, (gw.trans g1).trans g2⟩
  | true =>
    rw [hb] at hle
    obtain ⟨t1, t2, t3, t4⟩ := of_decide_eq_true hb
    replace hle := Lib.hid hle
    replace hb := Lib.hid hb
    by_cases h40 : t.r = 1099511627776
    · have e40 : (t.r == 1099511627776) = true := by simpa using h40
      clear h40
      go_enter Tryd.func5, Tryd.ntmps5
      go_wp2_with fail
      refine (hal.out).mono ?_
      rintro e w1 ⟨rfl, g1⟩
      obtain ⟨c1, f1, s1⟩ := g1.cells
      try simp only [size_drewN] at c1 f1 s1
      try simp only [World.size_alloc] at c1 f1 s1
      try simp only [World.size_drew] at c1 f1 s1
      try simp only [World.size_setCell] at c1 f1 s1
      have z10 : W.heap.size < w1.heap.size := by omega
      have y10 : W.heap.size ≤ w1.heap.size := by omega
      have k10 := fun o => c1 (W.heap.size) o (by omega)
      have j10 := fun o => f1 (W.heap.size) o (by omega)
      go_wp2_with fail
      refine (hle.out _).mono ?_
      rintro e w2 ⟨rfl, g2⟩
      obtain ⟨c2, f2, s2⟩ := g2.cells
      try simp only [size_drewN] at c2 f2 s2
      try simp only [World.size_alloc] at c2 f2 s2
      try simp only [World.size_drew] at c2 f2 s2
      try simp only [World.size_setCell] at c2 f2 s2
      have z20 : W.heap.size < w2.heap.size := by omega
      have y20 : W.heap.size ≤ w2.heap.size := by omega
      have k20 := fun o => c2 (W.heap.size) o (by omega)
      have j20 := fun o => f2 (W.heap.size) o (by omega)
      go_wp2_with fail
      go_ret
      exact ⟨rfl, (gw.trans g1).trans g2⟩
    · have e40 : (t.r == 1099511627776) = false := by simpa using h40
      by_cases h64 : 64 < L.length
      · go_enter Tryd.func5, Tryd.ntmps5
        go_wp2_with fail
        refine (hal.out).mono ?_
        rintro e w1 ⟨rfl, g1⟩
        obtain ⟨c1, f1, s1⟩ := g1.cells
        try simp only [size_drewN] at c1 f1 s1
        try simp only [World.size_alloc] at c1 f1 s1
        try simp only [World.size_drew] at c1 f1 s1
        try simp only [World.size_setCell] at c1 f1 s1
        have z10 : W.heap.size < w1.heap.size := by omega
        have y10 : W.heap.size ≤ w1.heap.size := by omega
        have k10 := fun o => c1 (W.heap.size) o (by omega)
        have j10 := fun o => f1 (W.heap.size) o (by omega)
        go_wp2_with fail
        refine (hle.out _).mono ?_
        rintro e w2 ⟨rfl, g2⟩
        obtain ⟨c2, f2, s2⟩ := g2.cells
        try simp only [size_drewN] at c2 f2 s2
        try simp only [World.size_alloc] at c2 f2 s2
        try simp only [World.size_drew] at c2 f2 s2
        try simp only [World.size_setCell] at c2 f2 s2
        have z20 : W.heap.size < w2.heap.size := by omega
        have y20 : W.heap.size ≤ w2.heap.size := by omega
        have k20 := fun o => c2 (W.heap.size) o (by omega)
        have j20 := fun o => f2 (W.heap.size) o (by omega)
        go_wp2_with fail
        go_ret
        exact ⟨rfl, (gw.trans g1).trans g2⟩
      · go_enter Tryd.func5, Tryd.ntmps5
        go_wp2_with fail
        refine (hal.out).mono ?_
        rintro e w1 ⟨rfl, g1⟩
        obtain ⟨c1, f1, s1⟩ := g1.cells
        try simp only [size_drewN] at c1 f1 s1
        try simp only [World.size_alloc] at c1 f1 s1
        try simp only [World.size_drew] at c1 f1 s1
        try simp only [World.size_setCell] at c1 f1 s1
        have z10 : W.heap.size < w1.heap.size := by omega
        have y10 : W.heap.size ≤ w1.heap.size := by omega
        have k10 := fun o => c1 (W.heap.size) o (by omega)
        have j10 := fun o => f1 (W.heap.size) o (by omega)
        go_wp2_with fail
        refine (hle.out _).mono ?_
        rintro e w2 ⟨rfl, g2⟩
        obtain ⟨c2, f2, s2⟩ := g2.cells
        try simp only [size_drewN] at c2 f2 s2
        try simp only [World.size_alloc] at c2 f2 s2
        try simp only [World.size_drew] at c2 f2 s2
        try simp only [World.size_setCell] at c2 f2 s2
        have z20 : W.heap.size < w2.heap.size := by omega
        have y20 : W.heap.size ≤ w2.heap.size := by omega
        have k20 := fun o => c2 (W.heap.size) o (by omega)
        have j20 := fun o => f2 (W.heap.size) o (by omega)
        go_wp2_with fail
        refine (new_no1 _).mono ?_
        rintro e w3 ⟨rb, ab, R, rfl, hr, hv, n1, n2, g3⟩
        have gw2 : Gr W w2 := (gw.trans g1).trans g2
        have hs : Stand Any W w3 rb ab R := ⟨hr.mono (fun _ _ _ => trivial), gw2.trans g3, Nat.le_trans gw2.size n1, Nat.le_trans gw2.size n2⟩
        have hT0 := (Blk.new W #[.int .i64 t.r, .int .i64 t.n] 39).gr ((g1.trans g2).trans g3)
        have hsb := hs.gr ((Gr.refl w3).alloc (.cells #[.int .i64 (t.r + 1), .int .i64 0] 39))
        have hT1 := hT0.alloc (.cells #[.int .i64 (t.r + 1), .int .i64 0] 39)
        have hB1 := Blk.new w3 #[.int .i64 (t.r + 1), .int .i64 0] 39
        have zT := hT0.lt
        have zr := hr.o.lt
        have za := hr.b.lt
        have szw := gw2.size
        have nT : W.heap.size ∉ [rb, ab] := by have := g2.size; have := g1.size; simp at *; omega
        have nB : w3.heap.size ∉ [rb, ab] := by simp; omega
        have hbb : balB ⟨t.r + 1, 0⟩ = true := decide_eq_true (by dsimp only; omega)
        have hL0 : ∀ w' R', Stand Any W w' rb ab R' → LedM Any w' a L := fun w' R' h' => h.gr h'.g
        have hcap : L.length * 96 ≤ 140737488351232 := by omega
        have x0 : (w3.alloc (.cells #[.int .i64 (t.r + 1), .int .i64 0] 39)).cell? ⟨W.heap.size, 0, none⟩ = some (.int .i64 t.r) := hT1.cell rfl
        have x1 : (w3.alloc (.cells #[.int .i64 (t.r + 1), .int .i64 0] 39)).cell? ⟨W.heap.size, 1, none⟩ = some (.int .i64 t.n) := hT1.cell rfl
        have y0 : w3.cell? ⟨W.heap.size, 0, none⟩ = some (.int .i64 t.r) := hT0.cell rfl
        replace hv := Lib.hid hv
        replace hbb := Lib.hid hbb
        replace nT := Lib.hid nT
        replace nB := Lib.hid nB
        replace hT1 := Lib.hid hT1
        replace hB1 := Lib.hid hB1
        replace hL0 := Lib.hid hL0
        replace gw2 := Lib.hid gw2
        replace gw := Lib.hid gw
        clear hT0 hr n1 n2 g3 c1 f1 s1 c2 f2 s2 h hal hle
        go_wp2_with fail
        go_region_held3 (fun w' => w'.cell? ⟨W.heap.size, 0, none⟩ = some (.int .i64 t.r) ∧ w'.cell? ⟨W.heap.size, 1, none⟩ = some (.int .i64 t.n) ∧ w'.cell? ⟨w3.heap.size, 0, none⟩ = some (.int .i64 (t.r + 1)) ∧ w'.cell? ⟨w3.heap.size, 1, none⟩ = some (.int .i64 0)) (simp (maxDischargeDepth := 8) [go_sem, *])
          (first
            | (go_at_call 14; (with_reducible refine (rd_1 (b := ⟨t.r + 1, 0⟩) (hsb.gr ((Gr.refl _).drew)) hv.out hbb.out).mono ?_); rintro e w4 ⟨rfl, R4, hs4, hv4, g4⟩; have hT4 := (hT1.out.drew).grx g4 nT.out; have hB4 := (hB1.out.drew).grx g4 nB.out; have x40 : w4.cell? ⟨W.heap.size, 0, none⟩ = some (.int .i64 t.r) := hT4.cell rfl; have x41 : w4.cell? ⟨W.heap.size, 1, none⟩ = some (.int .i64 t.n) := hT4.cell rfl; have b40 : w4.cell? ⟨w3.heap.size, 0, none⟩ = some (.int .i64 (t.r + 1)) := hB4.cell rfl; have b41 : w4.cell? ⟨w3.heap.size, 1, none⟩ = some (.int .i64 0) := hB4.cell rfl; replace hv4 := Lib.hid hv4; replace hT4 := Lib.hid hT4; replace hB4 := Lib.hid hB4; clear g4)
            | (go_at_call 20; (with_reducible refine (rcopy_any a c L w4 (hL0.out _ _ hs4) hcap).mono ?_); rintro e w5 ⟨a5, c5, L5, rfl, m5, l5, n5, p5, q5, g5, o5, d5⟩; have hT5 := hT4.out.gr g5; have hB5 := hB4.out.gr g5; have x50 : w5.cell? ⟨W.heap.size, 0, none⟩ = some (.int .i64 t.r) := hT5.cell rfl; have x51 : w5.cell? ⟨W.heap.size, 1, none⟩ = some (.int .i64 t.n) := hT5.cell rfl; have b50 : w5.cell? ⟨w3.heap.size, 0, none⟩ = some (.int .i64 (t.r + 1)) := hB5.cell rfl; have b51 : w5.cell? ⟨w3.heap.size, 1, none⟩ = some (.int .i64 0) := hB5.cell rfl; have hL5 : L5.length = L.length := (by simpa using congrArg List.length m5); have hs5 := hs4.gr g5; have zr5 := hs4.r.o.lt; have za5 := hs4.r.b.lt; replace m5 := Lib.hid m5; replace hT5 := Lib.hid hT5; replace hB5 := Lib.hid hB5; replace hL5 := Lib.hid hL5; clear g5 o5 d5)
            | (go_at_call 18; (with_reducible refine (rd_2 (b := ⟨t.r + 1, 0⟩) (t := t) hE i6 i8 hs5 hv4.out hb.out a5 c5 L.length L5 hL5.out m5.out (l5.mono (fun b _ hb => by constructor <;> omega)) (by rw [hL5.out]; exact hcap)).mono ?_); rintro e w6 ⟨rfl, R6, hs6, hv6, g6⟩; have hT6 := hT5.out.grx g6 nT.out; have hB6 := hB5.out.grx g6 nB.out; have x60 : w6.cell? ⟨W.heap.size, 0, none⟩ = some (.int .i64 t.r) := hT6.cell rfl; have x61 : w6.cell? ⟨W.heap.size, 1, none⟩ = some (.int .i64 t.n) := hT6.cell rfl; have b60 : w6.cell? ⟨w3.heap.size, 0, none⟩ = some (.int .i64 (t.r + 1)) := hB6.cell rfl; have b61 : w6.cell? ⟨w3.heap.size, 1, none⟩ = some (.int .i64 0) := hB6.cell rfl; replace hv6 := Lib.hid hv6; replace hT6 := Lib.hid hT6; replace hB6 := Lib.hid hB6; clear g6)
            | fail)
        clear x40 x41 b40 b41 hT4 hB4 x50 x51 b50 b51 hT5 hB5 hs4 hv4 hs5 l5 n5 m5 p5 q5 y0 x0 x1 hsb hT1 hB1
        have e6 := (hE.gr hs6.g).c0 i0
        have heq := fun w => eql_same E 0 w
        have hsum : IntKind.i64.wrap (t.r + 2) = t.r + 2 := by rw [IntKind.wrap_i64]; omega
        have hs6' := hs6.gr ((Gr.refl w6).drew)
        go_wp2_with fail
        go_region_held3 (fun w' => w'.cell? ⟨W.heap.size, 0, none⟩ = some (.int .i64 t.r) ∧ w'.cell? ⟨w3.heap.size, 0, none⟩ = some (.int .i64 (t.r + 1)) ∧ w'.cell? ⟨w3.heap.size, 1, none⟩ = some (.int .i64 0) ∧ w'.cell? ⟨0, 0, none⟩ = some (.iface 194 (.pointer (some (E 0))))) (simp (maxDischargeDepth := 8) [go_sem, *])
          (first
            | (go_at_call 16; (with_reducible refine (rd_3 hs6' hv6.out).mono ?_); rintro e w7 ⟨rfl, rfl⟩)
            | (go_at_call 22; (with_reducible refine (rd_4 hs6' hv6.out).mono ?_); rintro e w8 ⟨a8, c8, L8, rfl, m8, l8, n8, p8, q8, g8⟩; have hs8 := hs6'.gr g8; have hT8 := (hT6.out.drew).gr g8; have hB8 := (hB6.out.drew).gr g8; have x80 : w8.cell? ⟨W.heap.size, 0, none⟩ = some (.int .i64 t.r) := hT8.cell rfl; have b80 : w8.cell? ⟨w3.heap.size, 0, none⟩ = some (.int .i64 (t.r + 1)) := hB8.cell rfl; have b81 : w8.cell? ⟨w3.heap.size, 1, none⟩ = some (.int .i64 0) := hB8.cell rfl; have e8 := (hE.gr hs8.g).c0 i0; replace hT8 := Lib.hid hT8; replace hB8 := Lib.hid hB8; have hL8 : L8.length = L.length := (by simpa using congrArg List.length m8); replace m8 := Lib.hid m8; have hL8' := hL8; replace hL8 := Lib.hid hL8; clear hL8')
            | (go_at_call 21; (with_reducible refine (sameLedger_eq a8 a c8 c L8 L w8 l8.any (hL0.out _ _ hs8) m8.out (by rw [hL8.out]; unfold maxLen; omega)).mono ?_); rintro e w9 ⟨rfl, g9⟩; have hs9 := hs8.gr g9; have hT9 := hT8.out.gr g9; have hB9 := hB8.out.gr g9; have x90 : w9.cell? ⟨W.heap.size, 0, none⟩ = some (.int .i64 t.r) := hT9.cell rfl; have b90 : w9.cell? ⟨w3.heap.size, 0, none⟩ = some (.int .i64 (t.r + 1)) := hB9.cell rfl; have b91 : w9.cell? ⟨w3.heap.size, 1, none⟩ = some (.int .i64 0) := hB9.cell rfl; have e9 := (hE.gr hs9.g).c0 i0; replace hT9 := Lib.hid hT9; replace hB9 := Lib.hid hB9; clear g9)
            | (go_at_call 23; (with_reducible refine (rd_5 hE i6 hs9 hv6.out L.length (by simp)).mono ?_); rintro e w10 ⟨rfl, g10⟩; have hs10 := hs9.gr g10; have hT10 := hT9.out.gr g10; have hB10 := hB9.out.gr g10; have x100 : w10.cell? ⟨W.heap.size, 0, none⟩ = some (.int .i64 t.r) := hT10.cell rfl; have b100 : w10.cell? ⟨w3.heap.size, 0, none⟩ = some (.int .i64 (t.r + 1)) := hB10.cell rfl; have b101 : w10.cell? ⟨w3.heap.size, 1, none⟩ = some (.int .i64 0) := hB10.cell rfl; have e10 := (hE.gr hs10.g).c0 i0; replace hT10 := Lib.hid hT10; replace hB10 := Lib.hid hB10; clear g10)
            | (go_at_call 25; (with_reducible refine (rd_6 (b := ⟨t.r + 1, 0⟩) hs10 hv6.out).mono ?_); rintro e w11 ⟨rfl, R11, hs11, hv11, g11⟩; have hT11 := hT10.out.grx g11 nT.out; have hB11 := hB10.out.grx g11 nB.out; have x110 : w11.cell? ⟨W.heap.size, 0, none⟩ = some (.int .i64 t.r) := hT11.cell rfl; have b110 : w11.cell? ⟨w3.heap.size, 0, none⟩ = some (.int .i64 (t.r + 1)) := hB11.cell rfl; have b111 : w11.cell? ⟨w3.heap.size, 1, none⟩ = some (.int .i64 0) := hB11.cell rfl; have e11 := (hE.gr hs11.g).c0 i0; replace hT11 := Lib.hid hT11; replace hB11 := Lib.hid hB11; replace hv11 := Lib.hid hv11; clear g11)
            | (go_at_call 16; (with_reducible refine (rd_7 hs11 hv11.out).mono ?_); rintro e w12 ⟨rfl, rfl⟩)
            | (go_at_call 14; (with_reducible refine (rd_8 hE i0 hs11 hv11.out ⟨t.r + 2, 0⟩).mono ?_); rintro e w13 ⟨rfl, g13⟩; have hs13 := hs11.gr g13; have hT13 := hT11.out.gr g13; have x130 : w13.cell? ⟨W.heap.size, 0, none⟩ = some (.int .i64 t.r) := hT13.cell rfl; have hB13 := hB11.out.gr g13; have b130 : w13.cell? ⟨w3.heap.size, 0, none⟩ = some (.int .i64 (t.r + 1)) := hB13.cell rfl; have b131 : w13.cell? ⟨w3.heap.size, 1, none⟩ = some (.int .i64 0) := hB13.cell rfl; have e13 := (hE.gr hs13.g).c0 i0; replace hT13 := Lib.hid hT13; replace hB13 := Lib.hid hB13; clear g13)
            | fail)
        go_wp2_with fail
        go_ret
        exact ⟨rfl, hs13.g⟩
end Go.Proofs.YtblfljpmkgmjaaaDoor
