/- lives, and the walks of DriftHolds, DriftGrows, DriftKeeps: each returns true and writes nothing that was there. Conditions: none beyond that the arguments can be read. -/
import Derived.Test.YtdgamdjfcamnlaaD
namespace Go.Proofs.Ytdgamdjfcamnlaa
open Go.RowKit
set_option linter.unusedVariables false

theorem reads_new (w : World) (zs : List Int) : Reads (w.alloc (.cells (vi zs).toArray 3)) (w.alloc (.cells (vi zs).toArray 3)).heap.size 1 (some ⟨w.heap.size, 0, none⟩) zs.length (vi zs) := by
  have hb := Blk.new w 3 (vi zs).toArray
  refine ⟨by rw [vi_length]; omega, fun _ => ⟨_, rfl, by simp, fun j u hu => ?_⟩⟩
  have hadd : (⟨w.heap.size, 0, none⟩ : Addr).add j = ⟨w.heap.size, j, none⟩ := by unfold Addr.add; split <;> simp_all
  rw [hadd, hb.cell, List.getElem?_toArray]
  exact hu

set_option maxHeartbeats 400000 in
theorem lives_any (w : World) : Calls Try.prog 12 #[] w fun e w' => e = .returned (.bool true) ∧ Below w.heap.size w w' := by
  have h1 : Hid (holdsB [0, 1, 0, 1] 2 1 = true) := show _ = _ by decide
  have h2 : Hid (holdsB [0, 0] 2 1 = false) := show _ = _ by decide
  have h3 : Hid (fstI [0, 0, 1] 2 1 = 1) := show _ = _ by decide
  go_enter Try.func12, Try.ntmps12
  go_wp2_with fail
  refine (holds_any _ 4 _ [0, 1, 0, 1] _ _ _ (reads_new w [0, 1, 0, 1]) rfl (by omega)).mono ?_
  rw [h1.out]
  rintro e w1 ⟨rfl, hb1⟩
  have hb1 := ((Below.refl _ _).alloc (Nat.le_refl w.heap.size) _).trans (hb1.mono (by simp))
  go_wp2_with fail
  refine (holds_any _ 2 _ [0, 0] _ _ _ (reads_new w1 [0, 0]) rfl (by omega)).mono ?_
  rw [h2.out]
  rintro e w2 ⟨rfl, hb2⟩
  have hb2 := (hb1.alloc hb1.size _).trans (hb2.mono (by simp; have := hb1.size; omega))
  go_wp2_with fail
  refine (first_any _ 3 _ [0, 0, 1] _ _ _ (reads_new w2 [0, 0, 1]) rfl (by omega)).mono ?_
  rw [h3.out]
  rintro e w3 ⟨rfl, hb3⟩
  have hb3 := (hb2.alloc hb2.size _).trans (hb3.mono (by simp; have := hb2.size; omega))
  go_wp2_with fail
  go_ret
  exact ⟨rfl, hb3⟩

def IsRow (k : IntKind) (w : World) (a : Option Addr) (len cap : Nat) (zs : List Int) : Prop :=
  (a = none ∧ len = 0 ∧ cap = 0 ∧ zs = []) ∨
  ∃ x, a = some x ∧ len ≤ cap ∧ cap ≤ maxLen ∧ zs.length = cap ∧ (∀ i, i < zs.length → w.cell? (x.add i) = some (.int k (zs.getD i 0))) ∧ ∀ n ∈ zs, (Lit.int k n).wf = true

theorem isrow_reads {w : World} {a : Option Addr} {len cap : Nat} {z : List Int} (h : IsRow .i64 w a len cap z) :
    Reads w w.heap.size 1 a len (vi (z.take len)) ∧ (z.take len).length = len := by
  rcases h with ⟨rfl, rfl, rfl, rfl⟩ | ⟨x, rfl, h1, h2, h3, hc, hwf⟩
  · exact ⟨Reads.none_, rfl⟩
  · have hl : (z.take len).length = len := by rw [List.length_take]; omega
    refine ⟨⟨by rw [vi_length, hl]; omega, fun hp => ?_⟩, hl⟩
    refine ⟨x, rfl, ?_, fun j u hu => ?_⟩
    · have := World.block_lt_of_cell? w _ (hc 0 (by omega))
      rwa [block_of_add] at this
    · unfold vi at hu
      rw [List.getElem?_map, List.getElem?_take] at hu
      by_cases hj : j < len
      · rw [if_pos hj] at hu
        have hjz : j < z.length := by omega
        rw [List.getElem?_eq_getElem hjz] at hu
        simp only [Option.map_some, Option.some.injEq] at hu
        rw [hc j hjz, ← hu, List.getD_eq_getElem?_getD, List.getElem?_eq_getElem hjz]
        rfl
      · rw [if_neg hj] at hu
        simp at hu

set_option maxHeartbeats 400000 in
theorem holds_walk (a0 : Option Addr) (len0 cap0 : Nat) (z0 : List Int) (a1 a2 : Int) (w : World) (w0 : IsRow .i64 w a0 len0 cap0 z0) (w1 : (Lit.int .i64 a1).wf = true) (w2 : (Lit.int .i64 a2).wf = true) :
    Calls Try.prog 3 #[.slice a0 len0 cap0, .int .i64 a1, .int .i64 a2] w fun e w' => e = .returned (.bool true) ∧ Below w.heap.size w w' := by
  obtain ⟨hr, hl⟩ := isrow_reads w0
  have HC := hide (ints_any a0 len0 cap0 60 _ w hr hl (by omega))
  have hlen : ((z0.take len0).take 60).length ≤ 60 := by rw [List.length_take]; omega
  generalize (z0.take len0).take 60 = l at *
  have HH : Hid (holdsB l a1 a2 = (mayB a1 a2 && ((fstI l a1 a2 : Int) == (l.length : Int)))) := show _ = _ by
    unfold holdsB fstI
    cases hm : mayB a1 a2
    · rfl
    · rw [if_pos rfl, Bool.true_and, Bool.true_and]
      by_cases e : firstL l a1.toNat a2 = l.length
      · rw [e]; simp
      · rw [decide_eq_false e, eq_comm, beq_eq_false_iff_ne]
        omega
  clear w0 w1 w2 hr hl
  go_enter Try.func3, Try.ntmps3
  go_wp2_with fail
  refine (unhide HC).mono ?_
  rintro e w1 ⟨A, c, rfl, hlc, hcm, hown, hb1⟩
  clear HC
  have hr := Reads.of_own hown
  go_wp2_with fail
  refine (reff_any _ _ _ l _ _ _ hr rfl (by omega) hlc hcm).mono ?_
  rintro e w' ⟨rfl, rfl⟩
  go_wp2_with fail
  refine (first_any _ _ _ l _ _ _ hr rfl (by omega)).mono ?_
  rintro e w2 ⟨rfl, hb2⟩
  have hr := (hr.below hb2).more hb2.size
  have hb2 := hb1.trans (hb2.mono hb1.size)
  go_wp2_with fail
  refine (holds_any _ _ _ l _ _ _ hr rfl (by omega)).mono ?_
  rintro e w3 ⟨rfl, hb3⟩
  have hb3 := hb2.trans (hb3.mono hb2.size)
  rw [HH.out]
  go_wp2_with fail
  refine (May_any _ _ _).mono ?_
  rintro e w' ⟨rfl, rfl⟩
  go_wp2_with fail
  all_goals
    refine (lives_any _).mono ?_
    rintro e w4 ⟨rfl, hb4⟩
    have hb4 := hb3.trans (hb4.mono hb3.size)
    go_wp2_with fail
    go_ret
    exact ⟨rfl, hb4⟩

theorem holdsB_iff (l : List Int) (n rate : Int) : holdsB l n rate = true ↔ mayB n rate = true ∧ AllR l n.toNat rate := by
  unfold holdsB
  rw [Bool.and_eq_true, decide_eq_true_iff, firstL_len]
theorem within_mid (x lo hi : Int) (h : lo ≤ hi) : ∃ k : Int, lo ≤ k ∧ k ≤ hi ∧ ∀ w : World,
    Calls Try.prog 13 #[.int .i64 x, .int .i64 lo, .int .i64 hi] w fun e w' => e = .returned (.int .i64 k) ∧ w = w' := by
  by_cases h1 : x < lo
  · exact ⟨lo, by omega, h, fun w => by have := within_any x lo hi w; rw [if_pos h1] at this; exact this⟩
  · by_cases h2 : hi < x
    · exact ⟨hi, h, by omega, fun w => by have := within_any x lo hi w; rw [if_neg h1, if_pos h2] at this; exact this⟩
    · exact ⟨x, by omega, by omega, fun w => by have := within_any x lo hi w; rw [if_neg h1, if_neg h2] at this; exact this⟩

set_option maxHeartbeats 400000 in
theorem grows_walk (a0 : Option Addr) (len0 cap0 : Nat) (z0 : List Int) (a1 a2 a3 : Int) (w : World) (w0 : IsRow .i64 w a0 len0 cap0 z0) (w1 : (Lit.int .i64 a1).wf = true) (w2 : (Lit.int .i64 a2).wf = true) (w3 : (Lit.int .i64 a3).wf = true) :
    Calls Try.prog 4 #[.slice a0 len0 cap0, .int .i64 a1, .int .i64 a2, .int .i64 a3] w fun e w' => e = .returned (.bool true) ∧ Below w.heap.size w w' := by
  obtain ⟨hr, hl⟩ := isrow_reads w0
  have HC := hide (ints_any a0 len0 cap0 60 _ w hr hl (by omega))
  have hlen : ((z0.take len0).take 60).length ≤ 60 := by rw [List.length_take]; omega
  generalize (z0.take len0).take 60 = l at *
  obtain ⟨at', h1, h2, hat⟩ := within_mid a3 0 (l.length : Int) (by omega)
  obtain ⟨k, rfl⟩ := Int.eq_ofNat_of_zero_le h1
  obtain ⟨n, hn1, hn9, hwn⟩ := within_mid a1 1 9 (by omega)
  obtain ⟨r, hr1, hr15, hwr⟩ := within_mid a2 1 15 (by omega)
  have hk : k ≤ l.length := by omega
  have hlk : (l.take k).length = k := by rw [List.length_take]; omega
  have H1 := hide hat
  have H2 := hide hwn
  have H3 := hide hwr
  have hm : ∀ s, 1 ≤ s → s ≤ 16 → mayB n s = true := fun s h1 h2 => by unfold mayB; rw [decide_eq_true_iff]; omega
  cases hh : holdsB l n r
  · have HH := Lib.hid hh
    clear hh hm hlk hat hwn hwr hr hl w0 w1 w2 w3
    go_enter Try.func4, Try.ntmps4
    go_wp2_with fail
    refine (unhide HC).mono ?_
    rintro e w1 ⟨A, c, rfl, hlc, hcm, hown, hb1⟩
    clear HC
    have hr := Reads.of_own hown
    go_wp2_with fail
    refine (unhide H1 _).mono ?_
    rintro e w' ⟨rfl, rfl⟩
    go_wp2_with fail
    refine (unhide H2 _).mono ?_
    rintro e w' ⟨rfl, rfl⟩
    go_wp2_with fail
    refine (unhide H3 _).mono ?_
    rintro e w' ⟨rfl, rfl⟩
    clear H1 H2 H3
    go_wp2_with fail
    refine (holds_any _ _ _ l _ _ _ hr rfl (by omega)).mono ?_
    rw [HH.out]
    rintro e w3 ⟨rfl, hb3⟩
    have hb3 := hb1.trans (hb3.mono hb1.size)
    go_wp2_with fail
    refine (lives_any _).mono ?_
    rintro e w4 ⟨rfl, hb4⟩
    have hb4 := hb3.trans (hb4.mono hb3.size)
    go_wp2_with fail
    go_ret
    exact ⟨rfl, hb4⟩
  · have HH := Lib.hid hh
    have hall := ((holdsB_iff l n r).1 hh).2
    have HA : Hid (holdsB (l.take k) n r = true) := (holdsB_iff _ _ _).2 ⟨hm r hr1 (by omega), AllR_take _ _ _ _ hall⟩
    have HB : Hid (holdsB l n (r + 1) = true) := (holdsB_iff _ _ _).2 ⟨hm (r + 1) (by omega) (by omega), AllR_mono _ _ _ _ (by omega) hall⟩
    have HLK := Lib.hid hlk
    clear hh hm hall hlk hat hwn hwr hr hl w0 w1 w2 w3
    go_enter Try.func4, Try.ntmps4
    go_wp2_with fail
    refine (unhide HC).mono ?_
    rintro e w1 ⟨A, c, rfl, hlc, hcm, hown, hb1⟩
    clear HC
    have hr := Reads.of_own hown
    go_wp2_with fail
    refine (unhide H1 _).mono ?_
    rintro e w' ⟨rfl, rfl⟩
    go_wp2_with fail
    refine (unhide H2 _).mono ?_
    rintro e w' ⟨rfl, rfl⟩
    go_wp2_with fail
    refine (unhide H3 _).mono ?_
    rintro e w' ⟨rfl, rfl⟩
    clear H1 H2 H3
    go_wp2_with fail
    refine (holds_any _ _ _ l _ _ _ hr rfl (by omega)).mono ?_
    rw [HH.out]
    rintro e w3 ⟨rfl, hb3⟩
    have hr := (hr.below hb3).more hb3.size
    have hb3 := hb1.trans (hb3.mono hb1.size)
    unfold maxLen at hcm
    go_wp2_with fail
    refine (holds_any _ k _ (l.take k) _ _ _ (reads_take hr rfl k hk) HLK.out (by omega)).mono ?_
    rw [HA.out]
    rintro e w5 ⟨rfl, hb5⟩
    have hr := (hr.below hb5).more hb5.size
    have hb5 := hb3.trans (hb5.mono hb3.size)
    go_wp2_with fail
    refine (holds_any _ _ _ l _ _ _ hr rfl (by omega)).mono ?_
    rw [HB.out]
    rintro e w6 ⟨rfl, hb6⟩
    have hb6 := hb5.trans (hb6.mono hb5.size)
    go_wp2_with fail
    refine (lives_any _).mono ?_
    rintro e w4 ⟨rfl, hb4⟩
    have hb4 := hb6.trans (hb4.mono hb6.size)
    go_wp2_with fail
    go_ret
    exact ⟨rfl, hb4⟩

set_option maxHeartbeats 400000 in
theorem keeps_walk (a0 : Option Addr) (len0 cap0 : Nat) (z0 : List Int) (a1 a2 : Int) (w : World) (w0 : IsRow .i64 w a0 len0 cap0 z0) (w1 : (Lit.int .i64 a1).wf = true) (w2 : (Lit.int .i64 a2).wf = true) :
    Calls Try.prog 6 #[.slice a0 len0 cap0, .int .i64 a1, .int .i64 a2] w fun e w' => e = .returned (.bool true) ∧ Below w.heap.size w w' := by
  obtain ⟨hr, hl⟩ := isrow_reads w0
  have HC := hide (ints_any a0 len0 cap0 60 _ w hr hl (by omega))
  have hlen : ((z0.take len0).take 60).length ≤ 60 := by rw [List.length_take]; omega
  generalize (z0.take len0).take 60 = l at *
  have hlk : (keepI l a1 a2).length ≤ 60 := by
    unfold keepI
    split
    · exact Nat.le_trans (keepL_len _ _ _) hlen
    · simp
  have h1 : Hid (mayB a1 a2 = true → holdsB (keepI l a1 a2) a1 a2 = true) := fun h => by
    unfold keepI
    rw [if_pos h]
    exact (holdsB_iff _ _ _).2 ⟨h, keepL_all _ _ _⟩
  have h2 : Hid (holdsB l a1 a2 = true → keepI l a1 a2 = l) := fun h => by
    obtain ⟨ha, hb⟩ := (holdsB_iff _ _ _).1 h
    unfold keepI
    rw [if_pos ha]
    exact keepL_same _ _ _ hb
  have h3 : Hid (mayB a1 a2 = false → holdsB l a1 a2 = false) := fun h => by
    unfold holdsB
    rw [h]
    rfl
  clear w0 w1 w2 hr hl
  generalize hks : keepI l a1 a2 = ks at *
  have HK := Lib.hid hks
  clear hks
  go_enter Try.func6, Try.ntmps6
  go_wp2_with fail
  refine (unhide HC).mono ?_
  rintro e w1 ⟨A, c, rfl, hlc, hcm, hown, hb1⟩
  clear HC
  have hr := Reads.of_own hown
  go_wp2_with fail
  refine (keep_any _ _ _ l _ _ _ hr rfl (by omega)).mono ?_
  rw [HK.out]
  rintro e w2 ⟨A2, c2, rfl, _, _, hown2, hb2⟩
  have hr := (hr.below hb2).more hb2.size
  have hb2 := hb1.trans (hb2.mono hb1.size)
  have hr2 := Reads.of_own hown2
  go_wp2_with fail
  refine (refk_any _ _ _ l _ _ _ hr rfl (by omega)).mono ?_
  rw [HK.out]
  rintro e w3 ⟨A3, c3, rfl, _, _, hown3, hb3⟩
  have hr := (hr.below hb3).more hb3.size
  have hr2 := (hr2.below hb3).more hb3.size
  have hb3 := hb2.trans (hb3.mono hb2.size)
  have hr3 := Reads.of_own hown3
  go_wp2_with fail
  refine (same_any _ _ _ _ _ ks _ hr2 hr3 rfl (by omega)).mono ?_
  rintro e w4 ⟨rfl, hb4⟩
  have hr := (hr.below hb4).more hb4.size
  have hr2 := (hr2.below hb4).more hb4.size
  have hb4 := hb3.trans (hb4.mono hb3.size)
  clear hown hown2 hown3 hr3
  go_wp2_with fail
  refine (May_any _ _ _).mono ?_
  rintro e w' ⟨rfl, rfl⟩
  have hfin : ∀ (v : World), Hid (Below w.heap.size w v) → True := fun _ _ => trivial
  cases hm : mayB a1 a2
  · have hh : Hid (holdsB l a1 a2 = false) := h3.out hm
    clear hm
    go_wp2_with fail
    refine (holds_any _ _ _ l _ _ _ hr rfl (by omega)).mono ?_
    rw [hh.out]
    rintro e w5 ⟨rfl, hb5⟩
    have hb5 := hb4.trans (hb5.mono hb4.size)
    go_wp2_with fail
    refine (lives_any _).mono ?_
    rintro e w6 ⟨rfl, hb6⟩
    have hb6 := hb5.trans (hb6.mono hb5.size)
    go_wp2_with fail
    go_ret
    exact ⟨rfl, hb6⟩
  · have hk : Hid (holdsB ks a1 a2 = true) := h1.out hm
    clear hm
    go_wp2_with fail
    refine (holds_any _ _ _ ks _ _ _ hr2 rfl (by omega)).mono ?_
    rw [hk.out]
    rintro e w5 ⟨rfl, hb5⟩
    have hr := (hr.below hb5).more hb5.size
    have hr2 := (hr2.below hb5).more hb5.size
    have hb5 := hb4.trans (hb5.mono hb4.size)
    go_wp2_with fail
    refine (holds_any _ _ _ l _ _ _ hr rfl (by omega)).mono ?_
    cases hh : holdsB l a1 a2
    · rintro e w6 ⟨rfl, hb6⟩
      have hb6 := hb5.trans (hb6.mono hb5.size)
      clear hh
      go_wp2_with fail
      refine (lives_any _).mono ?_
      rintro e w7 ⟨rfl, hb7⟩
      have hb7 := hb6.trans (hb7.mono hb6.size)
      go_wp2_with fail
      go_ret
      exact ⟨rfl, hb7⟩
    · rintro e w6 ⟨rfl, hb6⟩
      have hr := (hr.below hb6).more hb6.size
      have hr2 := (hr2.below hb6).more hb6.size
      have hb6 := hb5.trans (hb6.mono hb5.size)
      have hkl := h2.out hh
      subst hkl
      clear hh
      go_wp2_with fail
      refine (same_any _ _ _ _ _ ks _ hr2 hr rfl (by omega)).mono ?_
      rintro e w7 ⟨rfl, hb7⟩
      have hb7 := hb6.trans (hb7.mono hb6.size)
      go_wp2_with fail
      refine (lives_any _).mono ?_
      rintro e w8 ⟨rfl, hb8⟩
      have hb8 := hb7.trans (hb8.mono hb7.size)
      go_wp2_with fail
      go_ret
      exact ⟨rfl, hb8⟩

end Go.Proofs.Ytdgamdjfcamnlaa
