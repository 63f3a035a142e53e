/- The rounds of ClockSpares in which Next is called. -/
import Derived.Test.YtoiabaienhchjaaO
namespace Go.Proofs.Ytoiabaienhchjaa
open Go.RowKit
set_option linter.unusedVariables false

section
variable {Q : Exit → Act → World → Prop} {a : Act} {w wr : World} {n k len cap u p m : Nat} {ad : Addr} {kd ix : Int}

set_option maxRecDepth 1000000 in
set_option maxHeartbeats 4000000 in
theorem round_full (hfr : Fr n k w.heap.size len cap (some ad) a) (hh : Held w wr n u p m) (hn64 : n ≤ 64) (hk : k < len) (hk60 : k < 60) (hlen : len ≤ 9223372036854775807) (hit : Item w wr ad k kd ix)
    (hor : ¬ 0 ≤ kd ∨ (0 ≤ kd ∧ ¬ kd < 5)) (hall : ∀ j, j < n → u.testBit j = true) (hpu : p = u)
    (hnext : ∀ a' w' u2 p2 m2, Fr n (k + 1) w.heap.size len cap (some ad) a' → Held w w' n u2 p2 m2 → Q .normal a' w') : Code.wp Try.prog spBody Q a wr := by
  have HN := hide hnext
  have hk0 := hit.c0
  have hadb := hit.adb
  have hfl : (mem p 64).length = n := by rw [hpu, mem_low u n hh.tidy.u0 64 hn64, mem_full u n hall]
  have hC1 := used_own w.heap.size n u p m 0 wr hh.ring
  have hC2 : ∀ w3, Below wr.heap.size wr w3 → Calls Try.prog 10 #[.pointer (some ⟨w.heap.size, 0, none⟩)] w3 (Own w3 (mem p 64)) := fun w3 hb3 => pinned_own w.heap.size n u p m 0 w3 (hh.ring.below hb3 hh.ring.lt)
  have hC3 : ∀ w4, Below wr.heap.size wr w4 → Calls Try.prog 11 #[.pointer (some ⟨w.heap.size, 0, none⟩)] w4 fun e w' => e = .returned (.tuple #[.int .i64 (-1), .int .i64 8]) ∧ w4.grownBy w' (some w.heap.size) ∧ Ring w' w.heap.size n u p m 0 :=
    fun w4 hb4 => next_full w.heap.size n u p m 0 w4 (hh.ring.below hb4 hh.ring.lt) hall hpu
  have hlu := mem_len u 64
  obtain ⟨U, hU⟩ : ∃ U, U = mem u 64 := ⟨_, rfl⟩
  obtain ⟨V, hV⟩ : ∃ V, V = mem p 64 := ⟨_, rfl⟩
  rw [← hU] at hC1 hlu
  rw [← hV] at hC2 hfl
  have HU := Lib.hid hU
  have HV := Lib.hid hV
  subst hfl
  have H1 := hide hC1
  have H2 := hide hC2
  have H3 := hide hC3
  have HH := Lib.hid hh
  clear hnext hit hall hpu hC1 hC2 hC3 hU hV hh
  refine Fr.cases (motive := fun a => Code.wp Try.prog spBody Q a wr) hfr ?_
  clear hfr
  intros
  rcases hor with h1 | ⟨h1, h2⟩
  all_goals
    conv => arg 2; whnf
    go_wp2_with (first
      | (go_at_call 9; refine (unhide H1).mono ?_; rintro e w3 ⟨A3, c3, rfl, hr3, ha3, hb3⟩)
      | (go_at_call 10; refine ((unhide H2) w3 hb3).mono ?_; rintro e w4 ⟨A4, c4, rfl, hr4, ha4, hb4⟩)
      | (go_at_call 11; refine ((unhide H3) w4 (hb3.trans (hb4.mono hb3.size))).mono ?_; rintro e w5 ⟨rfl, hg5, hring5⟩))
    have hb := hb3.trans (hb4.mono hb3.size)
    have hm5 := ((HH.out.marks.below hb HH.out.marks.lt)).grown hg5 (fun e => by injection e; omega)
    have hbel := HH.out.bel.trans (hb.mono HH.out.bel.size)
    exact (unhide HN) _ _ u p m ⟨rfl, rfl, rfl, rfl, rfl, rfl, by go_num⟩ (Held.mk hring5 HH.out.tidy hm5 (hbel.trans (below_of_grown hg5 (Nat.le_refl _) hbel.size)))

end

end Go.Proofs.Ytoiabaienhchjaa
