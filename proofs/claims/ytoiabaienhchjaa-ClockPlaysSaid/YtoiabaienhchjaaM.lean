/- The walk of ClockPlays: it returns true and writes nothing that was there. -/
import Derived.Test.YtoiabaienhchjaaQ
import Derived.Test.YtoiabaienhchjaaT
namespace Go.Proofs.Ytoiabaienhchjaa
open Go.RowKit
set_option linter.unusedVariables false

/-- what a round of ClockPlays runs, whatever the case -/
theorem plays_round {Q : Exit → Act → World → Prop} {a : Act} {w wr : World} {n k len cap u p m h : Nat} {ad : Addr} {kd ix : Int}
    (hfr : FrP k w.heap.size len cap (some ad) a) (hh : Two w wr n u p m h) (hk : k < len) (hk80 : k < 80) (hlen : len ≤ 9223372036854775807) (hit : Item w wr ad k kd ix)
    (hnext : ∀ a' w' u2 p2 m2 h2, FrP (k + 1) w.heap.size len cap (some ad) a' → Two w w' n u2 p2 m2 h2 → Q .normal a' w') : Code.wp Try.prog plBody Q a wr := by
  by_cases hkd : 0 ≤ kd ∧ kd < 5
  · exact plays_does hfr hh hk hk80 hlen hit hkd.1 hkd.2 hnext
  · have hor : ¬ 0 ≤ kd ∨ (0 ≤ kd ∧ ¬ kd < 5) := by omega
    rcases first_free u n with hall | ⟨kf, hkf, hkf0, hkfa⟩
    · by_cases hpu : p = u
      · exact plays_full hfr hh hk hk80 hlen hit hor hall hpu hnext
      · exact plays_turn hfr hh hk hk80 hlen hit hor hall hpu hnext
    · exact plays_free hfr hh hk hk80 hlen hit hor hkf hkfa hkf0 hnext

set_option maxRecDepth 1000000 in
set_option maxHeartbeats 4000000 in
theorem plays_bad (a0 : Int) (a1 : Option Addr) (len1 cap1 : Nat) (w : World) (hlen : len1 ≤ 9223372036854775807) (hn : a0 < 1 ∨ 64 < a0) :
    Calls Try.prog 4 #[.int .i64 a0, .slice a1 len1 cap1] w fun e w' => e = .returned (.bool true) ∧ Below w.heap.size w w' := by
  have H1 := hide (new_bad a0 w hn)
  have H2 := hide (rnew_bad a0 w hn)
  clear hn
  go_enter Try.func4, Try.ntmps4
  go_wp2_with (first
    | (go_at_call 7; refine (unhide H1).mono ?_; rintro e w2 ⟨rfl, rfl⟩)
    | (go_at_call 14; refine (unhide H2).mono ?_; rintro e w2 ⟨rfl, rfl⟩))
  go_loopw [9] (fun i wr => i = .int .i64 0 ∧ w = wr) (fun _ _ => 0)
  case atStart => exact ⟨rfl, by trivial⟩
  case round =>
    obtain ⟨rfl, rfl⟩ := hrel
    rcases Nat.eq_zero_or_pos len1 with h0 | h0
    · subst h0
      go_wp2_with (go_at_call 13; refine (lives_any _).mono ?_; rintro e w9 ⟨rfl, hb9⟩)
      go_ret
      exact ⟨rfl, hb9⟩
    · go_wp2_with (go_at_call 13; refine (lives_any _).mono ?_; rintro e w9 ⟨rfl, hb9⟩)
      go_ret
      exact ⟨rfl, hb9⟩

set_option maxRecDepth 1000000 in
set_option maxHeartbeats 4000000 in
theorem plays_good (n : Nat) (a1 : Option Addr) (len1 cap1 : Nat) (w : World) (w1 : IsDos w a1 len1) (hnn : 0 < n) (hn64 : n ≤ 64) :
    Calls Try.prog 4 #[.int .i64 (n : Int), .slice a1 len1 cap1] w fun e w' => e = .returned (.bool true) ∧ Below w.heap.size w w' := by
  have hlen := w1.1
  have HD : Hid (∀ k, k < len1 → ∃ ad kd ix, a1 = some ad ∧ ad.block < w.heap.size ∧ w.cell? (ad.add (k * 2)) = some (.int .i64 kd) ∧ w.cell? ⟨(ad.add (k * 2)).block, (ad.add (k * 2)).off + 1, none⟩ = some (.int .i64 ix)) := fun k hk => w1.2 k hk
  clear w1
  unfold maxLen at hlen
  have hR := rnew_ok n (w.alloc (.cells (rcells n 0 0 0 0) 55)) hnn hn64
  have hsz : (w.alloc (.cells (rcells n 0 0 0 0) 55)).heap.size = w.heap.size + 1 := by simp
  rw [hsz] at hR
  have H2 := hide hR
  have HSZ := Lib.hid hsz
  clear hR hsz
  go_enter Try.func4, Try.ntmps4
  go_wp2_with (first
    | (go_at_call 7; refine (new_ok n w hnn hn64).mono ?_; rintro e w2 ⟨rfl, rfl⟩
       have HR := Lib.hid (ring_new w n hnn hn64)
       have HB := Lib.hid ((Below.refl w.heap.size w).alloc (Nat.le_refl _) (.cells (rcells n 0 0 0 0) 55)))
    | (go_at_call 14; refine (unhide H2).mono ?_; rintro e w3 ⟨rfl, rr3, hb3⟩))
  have hst : Two w w3 n 0 0 0 0 := ⟨HR.out.below hb3 (Nat.lt_succ_self _), rr3, tidy_zero n, HB.out.trans (hb3.mono (Nat.le_succ _))⟩
  have HST := Lib.hid hst
  clear hst HR HB rr3 hb3
  refine wp_loop (c := plBody) (fun a' w' => ∃ k u p m h, k ≤ len1 ∧ k ≤ 80 ∧ FrP k w.heap.size len1 cap1 a1 a' ∧ Two w w' n u p m h) (fun a' _ => 80 - (intOf (a'.tmps.getD 9 undef)).toNat)
    ⟨0, 0, 0, 0, 0, Nat.zero_le _, Nat.zero_le _, ⟨rfl, rfl, rfl, rfl, rfl, rfl⟩, HST.out⟩ ?_
  clear HST
  rintro a' w' ⟨k, u, p, m, h, hk, hk80, hf, hh⟩
  have HH := Lib.hid hh
  by_cases hlt : k < len1 ∧ k < 80
  · obtain ⟨hlt, hlt2⟩ := hlt
    obtain ⟨ad, kd, ix, rfl, hadb, hc0, hc1⟩ := HD.out k hlt
    have hit : Item w w' ad k kd ix := ⟨hadb, (hh.bel.cell (p := ad.add (k * 2)) (by rw [block_of_add]; exact hadb)).trans hc0,
      (hh.bel.cell (p := ⟨(ad.add (k * 2)).block, (ad.add (k * 2)).off + 1, none⟩) (by rw [block_of_add]; exact hadb)).trans hc1⟩
    refine plays_round hf hh hlt hlt2 hlen hit ?_
    intro a'' w'' u2 p2 m2 h2 hf2 hh2
    refine ⟨⟨k + 1, u2, p2, m2, h2, hlt, hlt2, hf2, hh2⟩, ?_⟩
    show 80 - (intOf (a''.tmps.getD 9 undef)).toNat < 80 - (intOf (a'.tmps.getD 9 undef)).toNat
    rw [hf.s9, hf2.s9]
    simp [intOf]; omega
  · have hor : ¬ k < len1 ∨ (k < len1 ∧ ¬ k < 80) := by omega
    clear hlt hh
    refine FrP.cases (motive := fun a => Code.wp Try.prog plBody _ a w') hf ?_
    clear hf
    intros
    rcases hor with h1 | ⟨h1, h2⟩
    all_goals
      conv => arg 2; whnf
      go_wp2_with (go_at_call 13; refine (lives_any _).mono ?_; rintro e w9 ⟨rfl, hb9⟩)
      go_ret
      exact ⟨rfl, HH.out.bel.trans (hb9.mono HH.out.bel.size)⟩

theorem plays_walk (a0 : Int) (a1 : Option Addr) (len1 cap1 : Nat) (w : World) (w0 : (Lit.int .i64 a0).wf = true) (w1 : IsDos w a1 len1) :
    Calls Try.prog 4 #[.int .i64 a0, .slice a1 len1 cap1] w fun e w' => e = .returned (.bool true) ∧ Below w.heap.size w w' := by
  by_cases hn : a0 < 1 ∨ 64 < a0
  · exact plays_bad a0 a1 len1 cap1 w (by have := w1.1; unfold maxLen at this; omega) hn
  · obtain ⟨n, rfl⟩ := Int.eq_ofNat_of_zero_le (show 0 ≤ a0 by omega)
    exact plays_good n a1 len1 cap1 w w1 (by omega) (by omega)

end Go.Proofs.Ytoiabaienhchjaa
