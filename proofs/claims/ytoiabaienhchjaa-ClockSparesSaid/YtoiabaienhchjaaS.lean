/- The walk of ClockSpares: it returns true and writes nothing that was there. -/
import Derived.Test.YtoiabaienhchjaaR
import Derived.Test.YtoiabaienhchjaaT
namespace Go.Proofs.Ytoiabaienhchjaa
open Go.RowKit
set_option linter.unusedVariables false

/-- what a round of ClockSpares runs, whatever the case -/
theorem spares_round {Q : Exit → Act → World → Prop} {a : Act} {w wr : World} {n k len cap u p m : Nat} {ad : Addr} {kd ix : Int}
    (hfr : Fr n k w.heap.size len cap (some ad) a) (hh : Held w wr n u p m) (hn64 : n ≤ 64) (hk : k < len) (hk60 : k < 60) (hlen : len ≤ 9223372036854775807) (hit : Item w wr ad k kd ix)
    (hnext : ∀ a' w' u2 p2 m2, Fr n (k + 1) w.heap.size len cap (some ad) a' → Held w w' n u2 p2 m2 → Q .normal a' w')
    (hret : ∀ a' w', a'.defers = [] → a'.tmps.getD 4 undef = .bool true → Below w.heap.size w w' → Q .ret a' w') : Code.wp Try.prog spBody Q a wr := by
  by_cases hkd : 0 ≤ kd ∧ kd < 5
  · by_cases hc : (doR n u p m kd ix).1 = 0
    · by_cases h3 : kd < 3
      · exact round_store hfr hh hn64 hk hk60 hlen hit hkd.1 hkd.2 ⟨hc, h3⟩ hnext
      · exact round_keep hfr hh hn64 hk hk60 hlen hit hkd.1 hkd.2 hc h3 hnext
    · exact round_not hfr hh hn64 hk hk60 hlen hit hkd.1 hkd.2 hc hnext
  · have hor : ¬ 0 ≤ kd ∨ (0 ≤ kd ∧ ¬ kd < 5) := by omega
    rcases first_free u n with hall | ⟨kf, hkf, hkf0, hkfa⟩
    · by_cases hpu : p = u
      · exact round_full hfr hh hn64 hk hk60 hlen hit hor hall hpu hnext
      · exact round_turn hfr hh hn64 hk hk60 hlen hit hor hall hpu hret
    · exact round_free hfr hh hn64 hk hk60 hlen hit hor hkf hkfa hkf0 hret

set_option maxRecDepth 1000000 in
set_option maxHeartbeats 4000000 in
theorem spares_walk (a0 : Int) (a1 : Option Addr) (len1 cap1 : Nat) (w : World) (w0 : (Lit.int .i64 a0).wf = true) (w1 : IsDos w a1 len1) :
    Calls Try.prog 3 #[.int .i64 a0, .slice a1 len1 cap1] w fun e w' => e = .returned (.bool true) ∧ Below w.heap.size w w' := by
  have hlen := w1.1
  have HD : Hid (∀ k, k < len1 → ∃ ad kd ix, a1 = some ad ∧ ad.block < w.heap.size ∧ w.cell? (ad.add (k * 2)) = some (.int .i64 kd) ∧ w.cell? ⟨(ad.add (k * 2)).block, (ad.add (k * 2)).off + 1, none⟩ = some (.int .i64 ix)) := fun k hk => w1.2 k hk
  clear w0 w1
  unfold maxLen at hlen
  obtain ⟨i0, hi0, hz0, hz1, hz2⟩ := info_parts bool_info
  obtain ⟨n, hn, hnn, hn64⟩ : ∃ n : Nat, (if a0 < 1 then (1 : Int) else if 64 < a0 then 64 else a0) = (n : Int) ∧ 0 < n ∧ n ≤ 64 :=
    ⟨(if a0 < 1 then (1 : Int) else if 64 < a0 then 64 else a0).toNat, by split <;> (try split) <;> omega, by split <;> (try split) <;> omega, by split <;> (try split) <;> omega⟩
  have HN := Lib.hid hn
  have HI := Lib.hid hi0
  have HZ0 := Lib.hid hz0
  have HZ1 := Lib.hid hz1
  have HZ2 := Lib.hid hz2
  clear hn hi0 hz0 hz1 hz2
  go_enter Try.func3, Try.ntmps3
  go_wp2_with (first
    | (go_at_call 6; refine (within_any a0 1 64 _).mono ?_; rw [HN.out]; rintro e w2 ⟨rfl, rfl⟩)
    | (go_at_call 7; refine (new_ok n w hnn hn64).mono ?_; rintro e w2 ⟨rfl, rfl⟩
       have HR := Lib.hid (ring_new w n hnn hn64)
       have HB := Lib.hid ((Below.refl w.heap.size w).alloc (Nat.le_refl _) (.cells (rcells n 0 0 0 0) 55)))
    | (at_make
       refine wpList_make_row _ rfl _ _ 28 rfl 4 i0 (.bool false) Try.underlying28 HI.out HZ0.out HZ1.out rfl .i64 .i64 n rfl rfl (by rw [HZ2.out]; omega) (by omega) ?_
       rw [mkb_zero]))
  have hst : Held w ((w.alloc (.cells (rcells n 0 0 0 0) 55)).alloc (.cells (mkb n 0) 4)) n 0 0 0 :=
    ⟨⟨HR.out.blk.alloc _, hnn, hn64, hnn, by omega, by omega, by omega⟩, tidy_zero n, Blk.new2 w _ _ _, HB.out.alloc HB.out.size _⟩
  have HST := Lib.hid hst
  clear hst HR HB
  refine wp_loop (c := spBody) (fun a' w' => ∃ k u p m, k ≤ len1 ∧ k ≤ 60 ∧ Fr n k w.heap.size len1 cap1 a1 a' ∧ Held w w' n u p m) (fun a' _ => 60 - (intOf (a'.tmps.getD 8 undef)).toNat)
    ⟨0, 0, 0, 0, Nat.zero_le _, Nat.zero_le _, ⟨rfl, rfl, rfl, rfl, rfl, rfl, rfl⟩, HST.out⟩ ?_
  clear HST
  rintro a' w' ⟨k, u, p, m, hk, hk60, hf, hh⟩
  have HH := Lib.hid hh
  by_cases hlt : k < len1 ∧ k < 60
  · obtain ⟨hlt, hlt2⟩ := hlt
    obtain ⟨ad, kd, ix, rfl, hadb, hc0, hc1⟩ := HD.out k hlt
    have hit : Item w w' ad k kd ix := ⟨hadb, (hh.bel.cell (p := ad.add (k * 2)) (by rw [block_of_add]; exact hadb)).trans hc0,
      (hh.bel.cell (p := ⟨(ad.add (k * 2)).block, (ad.add (k * 2)).off + 1, none⟩) (by rw [block_of_add]; exact hadb)).trans hc1⟩
    refine spares_round hf hh hn64 hlt hlt2 hlen hit ?_ ?_
    · intro a'' w'' u2 p2 m2 hf2 hh2
      refine ⟨⟨k + 1, u2, p2, m2, hlt, hlt2, hf2, hh2⟩, ?_⟩
      show 60 - (intOf (a''.tmps.getD 8 undef)).toNat < 60 - (intOf (a'.tmps.getD 8 undef)).toNat
      rw [hf.s8, hf2.s8]
      simp [intOf]; omega
    · intro a'' w'' hdf h4 hb
      show bodyPost Try.prog Try.f3 (fun e w' => e = .returned (.bool true) ∧ Below w.heap.size w w') .ret a'' w''
      exact bodyPost_ret (results_tmp Try.results3 _ _ _) hdf ⟨by rw [h4], hb⟩
  · have hor : ¬ k < len1 ∨ (k < len1 ∧ ¬ k < 60) := by omega
    clear hlt hh
    refine Fr.cases (motive := fun a => Code.wp Try.prog spBody _ a w') hf ?_
    clear hf
    intros
    rcases hor with h1 | ⟨h1, h2⟩
    all_goals
      conv => arg 2; whnf
      go_wp2_with (go_at_call 13; refine (lives_any _).mono ?_; rintro e w9 ⟨rfl, hb9⟩)
      go_ret
      exact ⟨rfl, HH.out.bel.trans (hb9.mono HH.out.bel.size)⟩

end Go.Proofs.Ytoiabaienhchjaa
