/- The walk of ClockNobody: it returns true and writes nothing that was there. -/
import Derived.Test.YtoiabaienhchjaaF
namespace Go.Proofs.Ytoiabaienhchjaa
open Go.RowKit
set_option linter.unusedVariables false

set_option maxHeartbeats 2000000 in
theorem nobody_walk (a0 : Int) (w : World) (w0 : (Lit.int .i64 a0).wf = true) :
    Calls Try.prog 5 #[.int .i64 a0] w fun e w' => e = .returned (.bool true) ∧ Below w.heap.size w w' := by
  clear w0
  go_enter Try.func5, Try.ntmps5
  go_wp2
  go_loopw [3] (fun i wr => ∃ k : Nat, k ≤ 2 ∧ i = .int .i64 k ∧ Below w.heap.size w wr) (fun i _ => 2 - (intOf i).toNat)
  case atStart => exact ⟨0, Nat.zero_le _, rfl, Below.refl _ _⟩
  case round =>
    obtain ⟨k, hk, rfl, hbel⟩ := hrel
    by_cases hlt : k < 2
    · by_cases h1 : k = 1
      · have hN : Hid (Nobody (wr.alloc (.cells #[.int .i64 0, .int .u64 0, .int .u64 0, .int .u64 0, .int .i64 0] 55)) (some ⟨wr.heap.size, 0, none⟩)) :=
          .inr ⟨_, rfl, (Blk.new wr 55 _).cell 0⟩
        subst h1
        go_wp2_with (first
          | (go_at_call 11; refine (next_nobody _ _ hN.out).mono ?_; rintro e w' ⟨rfl, rfl⟩)
          | (go_at_call 20; refine (use_nobody _ _ _ hN.out).mono ?_; rintro e w' ⟨rfl, rfl⟩)
          | (go_at_call 21; refine (drop_nobody _ _ _ hN.out).mono ?_; rintro e w' ⟨rfl, rfl⟩)
          | (go_at_call 22; refine (touch_nobody _ _ _ hN.out).mono ?_; rintro e w' ⟨rfl, rfl⟩)
          | (go_at_call 23; refine (pin_nobody _ _ _ hN.out).mono ?_; rintro e w' ⟨rfl, rfl⟩)
          | (go_at_call 24; refine (unpin_nobody _ _ _ hN.out).mono ?_; rintro e w' ⟨rfl, rfl⟩)
          | (go_at_call 9; refine (used_nobody _ _ hN.out).mono ?_; rintro e w' ⟨rfl, rfl⟩)
          | (go_at_call 10; refine (pinned_nobody _ _ hN.out).mono ?_; rintro e w' ⟨rfl, rfl⟩)
          | (go_at_call 19; refine (hand_nobody _ _ hN.out).mono ?_; rintro e w' ⟨rfl, rfl⟩))
        go_roundw
        case rel => exact ⟨2, by omega, rfl, hbel.alloc hbel.size _⟩
        case measure => simp [intOf]
      · have h0 : k = 0 := by omega
        have hN : Hid (Nobody wr none) := .inl rfl
        subst h0
        clear h1
        go_wp2_with (first
          | (go_at_call 11; refine (next_nobody _ _ hN.out).mono ?_; rintro e w' ⟨rfl, rfl⟩)
          | (go_at_call 20; refine (use_nobody _ _ _ hN.out).mono ?_; rintro e w' ⟨rfl, rfl⟩)
          | (go_at_call 21; refine (drop_nobody _ _ _ hN.out).mono ?_; rintro e w' ⟨rfl, rfl⟩)
          | (go_at_call 22; refine (touch_nobody _ _ _ hN.out).mono ?_; rintro e w' ⟨rfl, rfl⟩)
          | (go_at_call 23; refine (pin_nobody _ _ _ hN.out).mono ?_; rintro e w' ⟨rfl, rfl⟩)
          | (go_at_call 24; refine (unpin_nobody _ _ _ hN.out).mono ?_; rintro e w' ⟨rfl, rfl⟩)
          | (go_at_call 9; refine (used_nobody _ _ hN.out).mono ?_; rintro e w' ⟨rfl, rfl⟩)
          | (go_at_call 10; refine (pinned_nobody _ _ hN.out).mono ?_; rintro e w' ⟨rfl, rfl⟩)
          | (go_at_call 19; refine (hand_nobody _ _ hN.out).mono ?_; rintro e w' ⟨rfl, rfl⟩))
        go_roundw
        case rel => exact ⟨1, by omega, rfl, hbel⟩
        case measure => simp [intOf]
    · go_wp2_with (go_at_call 13; refine (lives_any _).mono ?_; rintro e w9 ⟨rfl, hb9⟩)
      go_ret
      exact ⟨rfl, hbel.trans (hb9.mono hbel.size)⟩

end Go.Proofs.Ytoiabaienhchjaa
