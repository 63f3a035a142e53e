/- The rounds of ClockSpares in which Next answers a place. -/
import Derived.Test.YtoiabaienhchjaaP
namespace Go.Proofs.Ytoiabaienhchjaa
open Go.RowKit
set_option linter.unusedVariables false

section
variable {Q : Exit → Act → World → Prop} {a : Act} {w wr : World} {n k len cap u p m : Nat} {ad : Addr} {kd ix : Int}

set_option maxRecDepth 1000000 in
set_option maxHeartbeats 4000000 in
theorem round_free (hfr : Fr n k w.heap.size len cap (some ad) a) (hh : Held w wr n u p m) (hn64 : n ≤ 64) (hk : k < len) (hk60 : k < 60) (hlen : len ≤ 9223372036854775807) (hit : Item w wr ad k kd ix)
    (hor : ¬ 0 ≤ kd ∨ (0 ≤ kd ∧ ¬ kd < 5)) {kf : Nat} (hkf : kf < n) (hall : ∀ j, j < kf → u.testBit j = true) (hf : u.testBit kf = false)
    (hret : ∀ a' w', a'.defers = [] → a'.tmps.getD 4 undef = .bool true → Below w.heap.size w w' → Q .ret a' w') : Code.wp Try.prog spBody Q a wr := by
  have HN := hide hret
  have hk0 := hit.c0
  have hadb := hit.adb
  have hshort : (mem u 64).length < n := by rw [mem_low u n hh.tidy.u0 64 hn64]; exact mem_short u kf n hkf hf
  have hpk : p.testBit kf = false := by
    cases hb : p.testBit kf
    · rfl
    · have := hh.tidy.sub kf hb
      rw [hf] at this; cases this
  have hC3 : ∀ w4, Below wr.heap.size wr w4 → Calls Try.prog 11 #[.pointer (some ⟨w.heap.size, 0, none⟩)] w4 fun e w' => e = .returned (.tuple #[.int .i64 (kf : Int), .int .i64 0]) ∧ w4 = w' :=
    fun w4 hb4 => next_free w.heap.size n u p m 0 kf w4 (hh.ring.below hb4 hh.ring.lt) hkf hall hf
  have hC1 := used_own w.heap.size n u p m 0 wr hh.ring
  have hC2 : ∀ w3, Below wr.heap.size wr w3 → Calls Try.prog 10 #[.pointer (some ⟨w.heap.size, 0, none⟩)] w3 (Own w3 (mem p 64)) := fun w3 hb3 => pinned_own w.heap.size n u p m 0 w3 (hh.ring.below hb3 hh.ring.lt)
  have hlu := mem_len u 64
  have hlp := mem_len p 64
  have hUat : ∀ i (h : i < (mem u 64).length), ∃ j, j < n ∧ (mem u 64)[i] = (j : Int) := fun i h => mem_at hh.tidy.u0 h
  have hUin : ∀ j, j < n → decide ((j : Int) ∈ mem u 64) = u.testBit j := fun j hj => in_mem hn64 hj
  have hVin : ∀ j, j < n → decide ((j : Int) ∈ mem p 64) = p.testBit j := fun j hj => in_mem hn64 hj
  obtain ⟨U, hU⟩ : ∃ U, U = mem u 64 := ⟨_, rfl⟩
  obtain ⟨V, hV⟩ : ∃ V, V = mem p 64 := ⟨_, rfl⟩
  rw [← hU] at hC1 hlu hUat hUin hshort
  rw [← hV] at hC2 hlp hVin
  have HU := Lib.hid hU
  have HV := Lib.hid hV
  have H1 := hide hC1
  have H2 := hide hC2
  have H3 := hide hC3
  have HH := Lib.hid hh
  have HPK := Lib.hid hpk
  have HUK := Lib.hid hf
  have HUA := Lib.hid hUat
  have HUI := Lib.hid hUin
  have HVI := Lib.hid hVin
  clear hret hit hall hf hpk hC1 hC2 hC3 hU hV hh hUat hUin hVin
  refine Fr.cases (motive := fun a => Code.wp Try.prog spBody Q a wr) hfr ?_
  clear hfr
  intros
  rcases hor with h1 | ⟨h1, h2⟩
  all_goals
    conv => arg 2; whnf
    go_wp2_with (first
      | (go_at_call 9; refine (unhide H1).mono ?_; rintro e w3 ⟨A3, c3, rfl, hr3, ha3, hb3⟩)
      | (go_at_call 10; refine ((unhide H2) w3 hb3).mono ?_; rintro e w4 ⟨A4, c4, rfl, hr4, ha4, hb4⟩)
      | (go_at_call 11; refine ((unhide H3) w4 (hb3.trans (hb4.mono hb3.size))).mono ?_; rintro e w5 ⟨rfl, rfl⟩))
    have hb := hb3.trans (hb4.mono hb3.size)
    have hm5 := HH.out.marks.below hb HH.out.marks.lt
    have hbel := HH.out.bel.trans (hb.mono HH.out.bel.size)
    have hu4 := (hr3.below hb4).more hb4.size
    refine plain_loop (k := k) (b := w.heap.size) (len := len) (cap := cap) (a1 := some ad) (A3 := A3) (A4 := A4) (c3 := c3) (c4 := c4) (x := kf) (p := p) (m := m) (U := U) (V := V) ⟨rfl, rfl, rfl, rfl, rfl, rfl, rfl, rfl, rfl, rfl, rfl, rfl⟩ hn64 hlu hlp hu4 hr4 HUA.out HVI.out hm5 ?_
    intro a' D hfr2 hD64 hF
    refine Fr2.cases (motive := fun a' => Exit.inBlock _ _ _ a' w4) hfr2 ?_
    clear hfr2
    intros
    simp only [Exit.inBlock, if_true, Exit.then]
    have hne : ((U.length : Int) == (n : Int)) = false := by rw [beq_eq_false_iff_ne]; omega
    go_wp2_with fail
    (refine (in_any _ _ _ V (kf : Int) _ hr4 rfl hlp).mono ?_; rw [HVI.out kf hkf, HPK.out]; rintro e w6 ⟨rfl, rfl⟩)
    go_wp2_with fail
    (refine (in_any _ _ _ U (kf : Int) _ hu4 rfl hlu).mono ?_; rw [HUI.out kf hkf, HUK.out]; rintro e w6 ⟨rfl, rfl⟩)
    go_wp2_with (go_at_call 13; refine (lives_any _).mono ?_; rintro e w9 ⟨rfl, hb9⟩)
    exact (unhide HN) _ _ rfl rfl (hbel.trans (hb9.mono hbel.size))

set_option maxRecDepth 1000000 in
set_option maxHeartbeats 4000000 in
theorem round_turn (hfr : Fr n k w.heap.size len cap (some ad) a) (hh : Held w wr n u p m) (hn64 : n ≤ 64) (hk : k < len) (hk60 : k < 60) (hlen : len ≤ 9223372036854775807) (hit : Item w wr ad k kd ix)
    (hor : ¬ 0 ≤ kd ∨ (0 ≤ kd ∧ ¬ kd < 5)) (hall : ∀ j, j < n → u.testBit j = true) (hpu : p ≠ u)
    (hret : ∀ a' w', a'.defers = [] → a'.tmps.getD 4 undef = .bool true → Below w.heap.size w w' → Q .ret a' w') : Code.wp Try.prog spBody Q a wr := by
  have HN := hide hret
  have hk0 := hit.c0
  have hadb := hit.adb
  have hfl : (mem u 64).length = n := by rw [mem_low u n hh.tidy.u0 64 hn64, mem_full u n hall]
  obtain ⟨i, m2, h2, hs, hin, hpi, hmi⟩ := stops hh.tidy hpu hn64 hh.ring.ml hh.ring.hn
  have hC3 : ∀ w4, Below wr.heap.size wr w4 → Calls Try.prog 11 #[.pointer (some ⟨w.heap.size, 0, none⟩)] w4 fun e w' => e = .returned (.tuple #[.int .i64 (i : Int), .int .i64 0]) ∧ w4.grownBy w' (some w.heap.size) ∧ Ring w' w.heap.size n u p m2 h2 :=
    fun w4 hb4 => next_turn w.heap.size n u p m 0 (2 * n) i m2 h2 w4 (hh.ring.below hb4 hh.ring.lt) hall hpu hs
  have hC1 := used_own w.heap.size n u p m 0 wr hh.ring
  have hC2 : ∀ w3, Below wr.heap.size wr w3 → Calls Try.prog 10 #[.pointer (some ⟨w.heap.size, 0, none⟩)] w3 (Own w3 (mem p 64)) := fun w3 hb3 => pinned_own w.heap.size n u p m 0 w3 (hh.ring.below hb3 hh.ring.lt)
  have hlu := mem_len u 64
  have hlp := mem_len p 64
  have hUat : ∀ i (h : i < (mem u 64).length), ∃ j, j < n ∧ (mem u 64)[i] = (j : Int) := fun i h => mem_at hh.tidy.u0 h
  have hUin : ∀ j, j < n → decide ((j : Int) ∈ mem u 64) = u.testBit j := fun j hj => in_mem hn64 hj
  have hVin : ∀ j, j < n → decide ((j : Int) ∈ mem p 64) = p.testBit j := fun j hj => in_mem hn64 hj
  obtain ⟨U, hU⟩ : ∃ U, U = mem u 64 := ⟨_, rfl⟩
  obtain ⟨V, hV⟩ : ∃ V, V = mem p 64 := ⟨_, rfl⟩
  rw [← hU] at hC1 hlu hUat hUin hfl
  rw [← hV] at hC2 hlp hVin
  subst hfl
  have HU := Lib.hid hU
  have HV := Lib.hid hV
  have H1 := hide hC1
  have H2 := hide hC2
  have H3 := hide hC3
  have HH := Lib.hid hh
  have HPI := Lib.hid hpi
  have HMI := hide hmi
  have HUA := Lib.hid hUat
  have HUI := Lib.hid hUin
  have HVI := Lib.hid hVin
  clear hret hit hall hpu hpi hmi hs hC1 hC2 hC3 hU hV hh hUat hUin hVin
  refine Fr.cases (motive := fun a => Code.wp Try.prog spBody Q a wr) hfr ?_
  clear hfr
  intros
  rcases hor with h1 | ⟨h1, h2⟩
  all_goals
    conv => arg 2; whnf
    go_wp2_with (first
      | (go_at_call 9; refine (unhide H1).mono ?_; rintro e w3 ⟨A3, c3, rfl, hr3, ha3, hb3⟩)
      | (go_at_call 10; refine ((unhide H2) w3 hb3).mono ?_; rintro e w4 ⟨A4, c4, rfl, hr4, ha4, hb4⟩)
      | (go_at_call 11; refine ((unhide H3) w4 (hb3.trans (hb4.mono hb3.size))).mono ?_; rintro e w5 ⟨rfl, hg5, hring5⟩))
    have hb := hb3.trans (hb4.mono hb3.size)
    have hm4 := HH.out.marks.below hb HH.out.marks.lt
    have hm5 := hm4.grown hg5 (fun e => by injection e; omega)
    have hbel4 := HH.out.bel.trans (hb.mono HH.out.bel.size)
    have hbel := hbel4.trans (below_of_grown hg5 (Nat.le_refl _) hbel4.size)
    have hu5 := (reads_other ((hr3.below hb4).more hb4.size) (fun ad e => Nat.lt_of_lt_of_le HH.out.ring.lt (ha3 ad e)) hg5 (Nat.le_refl _)).more hg5.size
    have hr5 := (reads_other hr4 (fun ad e => Nat.lt_of_lt_of_le (Nat.lt_of_lt_of_le HH.out.ring.lt hb3.size) (ha4 ad e)) hg5 (Nat.le_refl _)).more hg5.size
    refine plain_loop (k := k) (b := w.heap.size) (len := len) (cap := cap) (a1 := some ad) (A3 := A3) (A4 := A4) (c3 := c3) (c4 := c4) (x := i) (p := p) (m := m) (U := U) (V := V) ⟨rfl, rfl, rfl, rfl, rfl, rfl, rfl, rfl, rfl, rfl, rfl, rfl⟩ hn64 hlu hlp hu5 hr5 HUA.out HVI.out hm5 ?_
    intro a' D hfr2 hD64 hF
    have hcm := hm5.cell i
    rw [mkb_get _ m i hin] at hcm
    by_cases hD : D = 0
    · subst hD
      clear hF hcm
      refine Fr2.cases (motive := fun a' => Exit.inBlock _ _ _ a' w5) hfr2 ?_
      clear hfr2
      intros
      simp only [Exit.inBlock, if_true, Exit.then]
      go_wp2_with fail
      (refine (in_any _ _ _ V (i : Int) _ hr5 rfl hlp).mono ?_; rw [HVI.out i hin, HPI.out]; rintro e w6 ⟨rfl, rfl⟩)
      go_wp2_with (go_at_call 13; refine (lives_any _).mono ?_; rintro e w9 ⟨rfl, hb9⟩)
      exact (unhide HN) _ _ rfl rfl (hbel.trans (hb9.mono hbel.size))
    · have hmf : m.testBit i = false := (unhide HMI) (hF.resolve_left hD)
      rw [hmf] at hcm
      have hD0 : 0 < D := by omega
      clear hF hmf hD
      refine Fr2.cases (motive := fun a' => Exit.inBlock _ _ _ a' w5) hfr2 ?_
      clear hfr2
      intros
      simp only [Exit.inBlock, if_true, Exit.then]
      go_wp2_with fail
      (refine (in_any _ _ _ V (i : Int) _ hr5 rfl hlp).mono ?_; rw [HVI.out i hin, HPI.out]; rintro e w6 ⟨rfl, rfl⟩)
      go_wp2_with (go_at_call 13; refine (lives_any _).mono ?_; rintro e w9 ⟨rfl, hb9⟩)
      exact (unhide HN) _ _ rfl rfl (hbel.trans (hb9.mono hbel.size))

end

end Go.Proofs.Ytoiabaienhchjaa
