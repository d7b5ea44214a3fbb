/- almonerref01: Fits (four digits); almonerref02: Of. -/
import Derived.Test.YtmookdgeblcjnaaDoorN3
import Derived.Deep.AppendLies
import Derived.Outline
namespace Go.Proofs.YtmookdgeblcjnaaDoor
open Go.RowKit

theorem or_join (i : Nat) (x y : Int) (hx0 : 0 ≤ x) (hx : x % 2 ^ i = 0) (hx1 : x < 18446744073709551616) (hy0 : 0 ≤ y) (hy : y < 2 ^ i) (hi : y < 18446744073709551616) : bits .or .u64 y x = y + x := by
  have := bits_join .u64 64 (by decide) (fun n h0 h1 => by rw [IntKind.wrap_u64]; omega) i x y hx0 hx hx1 hy0 hy hi
  rw [Int.add_comm, ← this]
  show IntKind.u64.wrap _ = IntKind.u64.wrap _
  rw [BitVec.or_comm]

theorem fits_val (a b c d : Int) (ha : 0 ≤ a ∧ a < 65536) (hb : 0 ≤ b ∧ b < 65536) (hc : 0 ≤ c ∧ c < 65536) (hd : 0 ≤ d ∧ d < 65536) :
    bits .or .u64 (bits .or .u64 (bits .or .u64 (IntKind.u64.wrap (dig [a, b, c, d] 0)) (IntKind.u64.wrap (IntKind.u64.wrap (dig [a, b, c, d] 1) * 65536))) (IntKind.u64.wrap (IntKind.u64.wrap (dig [a, b, c, d] 2) * 4294967296))) (IntKind.u64.wrap (IntKind.u64.wrap (dig [a, b, c, d] 3) * 281474976710656)) = valD [a, b, c, d] := by
  have e0 : dig [a, b, c, d] 0 = a := rfl
  have e1 : dig [a, b, c, d] 1 = b := rfl
  have e2 : dig [a, b, c, d] 2 = c := rfl
  have e3 : dig [a, b, c, d] 3 = d := rfl
  have w0 : IntKind.u64.wrap a = a := by rw [IntKind.wrap_u64]; omega
  have w1 : IntKind.u64.wrap (IntKind.u64.wrap b * 65536) = b * 65536 := by rw [IntKind.wrap_u64, IntKind.wrap_u64]; omega
  have w2 : IntKind.u64.wrap (IntKind.u64.wrap c * 4294967296) = c * 4294967296 := by rw [IntKind.wrap_u64, IntKind.wrap_u64]; omega
  have w3 : IntKind.u64.wrap (IntKind.u64.wrap d * 281474976710656) = d * 281474976710656 := by rw [IntKind.wrap_u64, IntKind.wrap_u64]; omega
  rw [e0, e1, e2, e3, w0, w1, w2, w3]
  rw [or_join 16 (b * 65536) a (by omega) (by omega) (by omega) (by omega) (by omega) (by omega), or_join 32 (c * 4294967296) (a + b * 65536) (by omega) (by omega) (by omega) (by omega) (by omega) (by omega)]
  rw [or_join 48 (d * 281474976710656) _ (by omega) (by omega) (by omega) (by omega) (by omega) (by omega)]
  simp [valD]; omega

set_option maxHeartbeats 800000 in
theorem bfits_any (ad : Option Addr) (a b c d : Int) (ca : Nat) (w : World) (hl : BigAt w ad [a, b, c, d]) (g : Dig [a, b, c, d]) :
    Calls Tryd.prog 88 #[.slice ad 4 ca] w fun e w' => e = .returned (.tuple #[.int .u64 (valD [a, b, c, d]), .bool true]) ∧ w = w' := by
  have e1 := fits_val a b c d (g.get (i := 0) rfl) (g.get (i := 1) rfl) (g.get (i := 2) rfl) (g.get (i := 3) rfl)
  replace e1 := Lib.hid e1
  go_enter Tryd.func88, Tryd.ntmps88
  go_wp2_with fail
  refine wp_loop_rounds 1 ?_
  rw [rounds_succ]
  go_wp2_with fail
  refine (bat_any ad [a, b, c, d] ca 0 _ hl).mono ?_
  rintro e wa ⟨rfl, rfl⟩
  go_wp2_with fail
  refine (bat_any ad [a, b, c, d] ca 1 _ hl).mono ?_
  rintro e wb ⟨rfl, rfl⟩
  go_wp2_with fail
  refine (bat_any ad [a, b, c, d] ca 2 _ hl).mono ?_
  rintro e wc ⟨rfl, rfl⟩
  go_wp2_with fail
  refine (bat_any ad [a, b, c, d] ca 3 _ hl).mono ?_
  rintro e wd ⟨rfl, rfl⟩
  go_wp2_with fail
  go_ret2
  exact ⟨by rw [← e1.out]; rfl, rfl⟩

/-- Four digits that are given: any list of four. -/
theorem bfits4 (ad : Option Addr) (ds : List Int) (ca : Nat) (w : World) (hl : BigAt w ad ds) (g : Dig ds) (h4 : ds.length = 4) :
    Calls Tryd.prog 88 #[.slice ad 4 ca] w fun e w' => e = .returned (.tuple #[.int .u64 (valD ds), .bool true]) ∧ w = w' := by
  match ds, h4 with
  | [a, b, c, d], _ => exact bfits_any ad a b c d ca w hl g

/-- The digits of a word in a block. -/
def BB (w : World) (b : Nat) (x : Int) : Prop :=
  w.heap[b]? = some (.cells #[.int .u32 (x % 65536), .int .u32 (x / 65536 % 65536), .int .u32 (x / 4294967296 % 65536), .int .u32 (x / 281474976710656)] 121 (0, 0))
theorem BB.gr {w w' : World} {b : Nat} {x : Int} (h : BB w b x) (g : Gr w w') : BB w' b x := by
  unfold BB at *
  rw [Below.block g _ (Array.getElem?_eq_some_iff.1 h).1]; exact h
theorem BB.own {base : Nat} {w : World} {b : Nat} {x : Int} (h : BB w b x) (hb : base ≤ b) : w.ownsRow base 121 1 (.slice (some ⟨b, 0, none⟩) 4 4) 4 ((digs4 x).flatMap digC) :=
  ⟨rfl, .inr ⟨b, 4, _, rfl, hb, h, Nat.le_refl _, by unfold maxLen; decide, rfl, rfl⟩⟩
theorem BB.news {w : World} {b : Nat} {x : Int} (h : BB w b x) : ∀ j u, ((digs4 x).flatMap digC)[j]? = some u → w.cell? ((⟨b, 0, none⟩ : Addr).add j) = some u :=
  World.news_of_block h
theorem BB.big {w : World} {b : Nat} {x : Int} (h : BB w b x) : BigAt w (some ⟨b, 0, none⟩) (digs4 x) := by
  intro i s hi
  refine ⟨b, 0, rfl, (Array.getElem?_eq_some_iff.1 h).1, fun j u hu => ?_⟩
  have h1 := flat_get digC_len (digs4 x) i s j u hi hu
  have := h.news _ _ h1
  unfold Addr.add at this
  rw [Nat.zero_add]
  split at this
  · rename_i h0; rw [h0]; exact this
  · simpa using this

set_option maxHeartbeats 800000 in
theorem bof_ex (n : Int) (w : World) (h0 : 0 ≤ n) (h1 : n < 18446744073709551616) :
    Calls Tryd.prog 79 #[.int .u64 n] w fun e w' => ∃ b, e = .returned (.slice (some ⟨b, 0, none⟩) 4 4) ∧ w.heap.size ≤ b ∧ BB w' b n ∧ Gr w w' := by
  have e0 := and_low16 n h0 h1
  have e1 := and_low16 (n / 65536) (by omega) (by omega)
  have e2 := and_low16 (n / 4294967296) (by omega) (by omega)
  go_enter Tryd.func79, Tryd.ntmps79
  go_wp2_with fail
  go_ret
  exact ⟨w.heap.size, rfl, Nat.le_refl _, heap_alloc_new w _, (Gr.refl _).alloc _⟩

theorem digs8_val (n : Int) : valD (digs4 (loW n) ++ digs4 (hiW n)) = n := by
  rw [valD_append, digs4_val, digs4_val]
  have : P64 (digs4 (loW n)).length = 18446744073709551616 := by show P64 4 = _; decide
  rw [this]
  have := word_eq n
  omega

theorem digC_ones (l : List Int) : ∀ u ∈ l.flatMap digC, u.oneCell' = true := by
  intro u hu
  obtain ⟨y, _, hy⟩ := List.mem_flatMap.1 hu
  exact digC_one y u hy

set_option maxRecDepth 100000 in
set_option maxHeartbeats 1600000 in
theorem rof_any (n : Int) (w : World) (hn : Wide n) :
    Calls Tryd.prog 78 #[.agg #[.int .u64 (hiW n), .int .u64 (loW n)]] w (BigP n 8 8 w) := by
  obtain ⟨i109, hi, hz0, hz1, hz2⟩ := info_parts Tryd.infoU32
  obtain ⟨l1, l2⟩ := word_lo n
  obtain ⟨h1, h2⟩ := word_hi hn
  have hfin := digs8_val n
  replace hfin := Lib.hid hfin
  go_enter Tryd.func78, Tryd.ntmps78
  go_wp2_with fail
  go_region_held3 (fun w' => w'.cell? ⟨w.heap.size, 0, none⟩ = some (.int .u64 (hiW n)) ∧ w'.cell? ⟨w.heap.size, 1, none⟩ = some (.int .u64 (loW n))) (simp (maxDischargeDepth := 8) [go_sem, *])
    (first
      | (go_at_call 79; (with_reducible refine (bof_ex (loW n) _ l1 l2).mono ?_); rintro e wl ⟨bl, rfl, ll, hbl, gl⟩; (try simp only [World.size_alloc, World.size_drew] at ll); obtain ⟨cl, fl, sl⟩ := gl.cells; (try simp only [World.size_alloc, World.size_drew] at cl fl sl); have zl : w.heap.size < wl.heap.size := (by omega); have kl := fun o => cl w.heap.size o (by omega))
      | (go_at_call 79; (with_reducible refine (bof_ex (hiW n) _ h1 h2).mono ?_); rintro e wh ⟨bh, rfl, lh, hbh, gh⟩; obtain ⟨ch, fh, sh⟩ := gh.cells; (try simp only [World.size_alloc, World.size_drew] at ch fh sh); have kh := fun o => ch w.heap.size o (by omega))
      | (refine step_append_lies _ (by rfl) _ _ _ (by rfl) (w.heap.size + 1) 121 i109 _ 1 4 Tryd.underlying110 hi hz0 hz1 hz2 rfl (by omega) (.slice (some ⟨bl, 0, none⟩) 4 4) 4 _ (by rfl) ((hbl.gr gh).own ll) ⟨bh, 0, none⟩ 4 4 _ (by rfl) (by rfl) hbh.news (digC_ones _) (by omega) (by unfold maxLen; omega) (by omega) (by omega) _ rfl ?_; intro g8 c8 w8 hown hgrow hat hlt; have k8 := fun o => hgrow.cell_far ⟨w.heap.size, o, none⟩ (by show w.heap.size < _; omega) (by simp [Value.ownBlock]; omega))
      | fail)
  go_wp2_with fail
  go_ret
  have hown' : w8.ownsRow (w.heap.size + 1) 121 1 (.slice (some ⟨g8, 0, none⟩) (4 + 4) c8) (digs4 (loW n) ++ digs4 (hiW n)).length ((digs4 (loW n) ++ digs4 (hiW n)).flatMap digC) := by
    rw [List.flatMap_append]; exact hown
  obtain ⟨a', c', hv, hr, hn', _⟩ := recs_of_owns digC_len hown'
  cases hv
  refine ⟨digs4 (loW n) ++ digs4 (hiW n), some ⟨g8, 0, none⟩, c8, rfl, hfin.out, (digs4_dig l1 l2).append (digs4_dig h1 h2), Nat.le_refl _, Nat.le_refl _, hr, hn', own_cap hown' rfl, ?_⟩
  exact Gr.grown (((((Gr.refl w).alloc _).drew).trans gl).trans gh) hgrow (fun k hk => by cases hk; show w.heap.size ≤ bl; omega)
end Go.Proofs.YtmookdgeblcjnaaDoor
