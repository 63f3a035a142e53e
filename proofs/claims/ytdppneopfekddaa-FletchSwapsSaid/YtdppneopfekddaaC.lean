/- Contracts of Same and lives. -/
import Derived.Test.YtdppneopfekddaaB
namespace Go.Proofs.Ytdppneopfekddaa
open Go.RowKit
set_option linter.unusedVariables false

set_option maxHeartbeats 400000 in
theorem same_any (A1 A2 : Option Addr) (n c1 c2 : Nat) (zs : List Int) (w : World) (hr1 : Reads w w.heap.size 1 A1 n (vs zs)) (hr2 : Reads w w.heap.size 1 A2 n (vs zs)) (hl : zs.length = n) (hn : n ≤ 1200) :
    Calls Try.prog 12 #[.slice A1 n c1, .slice A2 n c2] w fun e w' => e = .returned (.bool true) ∧ Below w.heap.size w w' := by
  have HL := Lib.hid hl
  clear hl
  go_enter Try.func12, Try.ntmps12
  go_wp2
  go_loopw [5] (fun i wr => ∃ k : Nat, k ≤ n ∧ i = .int .i64 k ∧ Below w.heap.size w wr) (fun i _ => n - (intOf i).toNat)
  case atStart => exact ⟨0, Nat.zero_le _, rfl, Below.refl _ _⟩
  case round =>
    obtain ⟨k, hk, rfl, hbel⟩ := hrel
    by_cases hlt : k < n
    · obtain ⟨a1, rfl, hb1, hc1⟩ := reads_at (hr1.below hbel) HL.out hlt
      obtain ⟨a2, rfl, hb2, hc2⟩ := reads_at (hr2.below hbel) HL.out hlt
      generalize zs[k]'(by have := HL.out; omega) = z at hc1 hc2
      have hk0 : (0 : Int) ≤ (k : Int) := by omega
      have hkn : (k : Int) < (n : Int) := by omega
      go_wp2
      go_quiet (fail)
      go_wp2
      go_roundw
      case rel => exact ⟨k + 1, by omega, by go_num, below_drewN hbel _⟩
      case measure => simp [intOf]; omega
    · go_wp2
      go_ret
      exact ⟨rfl, hbel⟩

theorem lives_any (w : World) :
    Calls Try.prog 13 #[] w fun e w' => e = .returned (.bool true) ∧ Below w.heap.size w w' := by
  have hr : Reads (w.alloc (.cells #[.int .u8 1, .int .u8 2] 5)) (w.alloc (.cells #[.int .u8 1, .int .u8 2] 5)).heap.size 1 (some ⟨w.heap.size, 0, none⟩) 2 (vs [1, 2]) := by
    have hb := Blk.new w 5 #[.int .u8 1, .int .u8 2]
    refine ⟨rfl, fun _ => ⟨_, rfl, by simp, fun j u hu => ?_⟩⟩
    have hadd : (⟨w.heap.size, 0, none⟩ : Addr).add j = ⟨w.heap.size, j, none⟩ := by unfold Addr.add; split <;> simp_all
    rw [hadd, hb.cell]
    rw [← hu]
    simp [vs]
  have hB : Byte [1, 2] := by unfold Byte; simp
  have HR := Lib.hid hr
  clear hr
  go_enter Try.func13, Try.ntmps13
  go_wp2_with (go_at_call 11; refine (sum_any _ _ _ [1, 2] _ HR.out rfl hB (by omega)).mono ?_; rintro e w1 ⟨rfl, hb1⟩)
  go_ret
  exact ⟨by rfl, ((Below.refl _ _).alloc (Nat.le_refl _) _).trans (hb1.mono (by simp))⟩
end Go.Proofs.Ytdppneopfekddaa
