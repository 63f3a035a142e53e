/- The clock's lives, and the walk of ClockNobody. -/
import Derived.Test.YtoiabaienhchjaaE
namespace Go.Proofs.Ytoiabaienhchjaa
open Go.RowKit
set_option linter.unusedVariables false

theorem below_of_grown {w w' : World} {B b : Nat} (h : w.grownBy w' (some b)) (hB : B ≤ b) (hg : B ≤ w.heap.size) : Below B w w' :=
  ⟨h.os, h.tape, h.output, h.size, fun k hk => h.block k (by omega) (fun e => by injection e; omega)⟩

set_option maxHeartbeats 2000000 in
theorem lives_any (w : World) : Calls Try.prog 13 #[] w fun e w' => e = .returned (.bool true) ∧ Below w.heap.size w w' := by
  have p1 : Hid (put 0 0 true = 1 ∧ put 0 0 false = 0 ∧ put 1 1 true = 3 ∧ put 0 1 false = 0 ∧ put 3 0 true = 3 ∧ put 3 0 (Nat.testBit 3 0) = 3) := show _ ∧ _ by decide
  have sp : Hid (spin 2 1 4 3 0 = some (1, 1, 0)) := show _ = _ by decide
  have ub : Hid (∀ j, j < 2 → Nat.testBit 3 j = true) := show ∀ j, _ by decide
  have u0 : Hid (Nat.testBit 3 0 = true) := show _ = _ by decide
  have hl : Hid ((mem 3 64).length = 2) := show _ = _ by decide
  go_enter Try.func13, Try.ntmps13
  go_wp2_with (first
    | (go_at_call 7; refine (new_ok 2 w (by omega) (by omega)).mono ?_; rintro e w1 ⟨rfl, rfl⟩
       have HR0 := Lib.hid (ring_new w 2 (by omega) (by omega))
       have HB0 := Lib.hid ((Below.refl w.heap.size w).alloc (Nat.le_refl _) (.cells (rcells 2 0 0 0 0) 55)))
    | (go_at_call 20; refine (use_in w.heap.size 2 0 0 0 0 0 _ HR0.out (by omega)).mono ?_; rw [p1.out.1, p1.out.2.1]; rintro e w2 ⟨rfl, hr2, hg2⟩
       have HR1 := Lib.hid hr2
       have HB1 := Lib.hid (HB0.out.trans (below_of_grown hg2 (Nat.le_refl _) (HB0.out.size)))
       clear HR0 hr2 hg2)
    | (go_at_call 20; refine (use_in w.heap.size 2 1 0 1 0 1 _ HR1.out (by omega)).mono ?_; rw [p1.out.2.2.1, p1.out.2.2.2.1]; rintro e w3 ⟨rfl, hr2, hg2⟩
       have HR3 := Lib.hid hr2
       have HB3 := Lib.hid (HB1.out.trans (below_of_grown hg2 (Nat.le_refl _) (HB1.out.size)))
       clear HR1 hr2 hg2)
    | (go_at_call 23; refine (pin_in w.heap.size 2 3 0 3 0 0 _ HR3.out (by omega) u0.out).mono ?_; rw [p1.out.2.2.2.2.1, p1.out.1, p1.out.2.2.2.2.2]; rintro e w4 ⟨rfl, hr2, hg2⟩
       have HR4 := Lib.hid hr2
       have HB4 := Lib.hid (HB3.out.trans (below_of_grown hg2 (Nat.le_refl _) (HB3.out.size)))
       clear HR3 hr2 hg2)
    | (go_at_call 11; refine (next_turn w.heap.size 2 3 1 3 0 4 1 1 0 _ HR4.out ub.out (by omega) sp.out).mono ?_; rintro e w5 ⟨rfl, hg2, hr2⟩
       have HR5 := Lib.hid hr2
       have HB5 := Lib.hid (HB4.out.trans (below_of_grown hg2 (Nat.le_refl _) (HB4.out.size)))
       clear HR4 hr2 hg2)
    | (go_at_call 9; refine (used_ring w.heap.size 2 3 1 1 0 _ HR5.out).mono ?_; rintro e w6 ⟨A, c, rfl, hr6, hb6⟩; rw [hl.out]))
  go_ret
  exact ⟨rfl, HB5.out.trans (hb6.mono HB5.out.size)⟩

end Go.Proofs.Ytoiabaienhchjaa
