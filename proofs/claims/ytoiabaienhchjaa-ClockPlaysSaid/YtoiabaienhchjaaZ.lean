/- SameInts of equal lists; what a round of ClockPlays knows. -/
import Derived.Test.YtoiabaienhchjaaY
namespace Go.Proofs.Ytoiabaienhchjaa
open Go.RowKit
set_option linter.unusedVariables false

set_option maxHeartbeats 1000000 in
theorem same_ints (A1 A2 : Option Addr) (c1 c2 : Nat) (l : List Int) (w : World) (h1 : Reads w w.heap.size 1 A1 l.length (vi l)) (h2 : Reads w w.heap.size 1 A2 l.length (vi l)) (hl : l.length ≤ 64) :
    Calls Try.prog 18 #[.slice A1 l.length c1, .slice A2 l.length c2] w fun e w' => e = .returned (.bool true) ∧ ∃ nq, w' = w.drewN nq := by
  go_enter Try.func18, Try.ntmps18
  go_wp2
  go_loopw [5] (fun i wr => ∃ k nq : Nat, k ≤ l.length ∧ i = .int .i64 k ∧ wr = w.drewN nq) (fun i _ => l.length - (intOf i).toNat)
  case atStart => exact ⟨0, 0, Nat.zero_le _, rfl, rfl⟩
  case round =>
    obtain ⟨k, nq, hk, rfl, rfl⟩ := hrel
    by_cases hlt : k < l.length
    · obtain ⟨a1, rfl, ab1, e1⟩ := reads_at h1 rfl hlt
      obtain ⟨a2, rfl, ab2, e2⟩ := reads_at h2 rfl hlt
      generalize l[k] = z at e1 e2
      go_wp2
      go_quiet (fail)
      go_wp2
      go_roundw
      case rel => exact ⟨k + 1, _, by omega, by go_num, rfl⟩
      case measure => simp [intOf]; omega
    · go_wp2
      go_ret
      exact ⟨rfl, nq, rfl⟩

/-- both rings -/
structure Two (w wr : World) (n u p m h : Nat) : Prop where
  ring : Ring wr w.heap.size n u p m h
  rr : RRing wr (w.heap.size + 2) (w.heap.size + 1) n u p m h
  tidy : Tidy n u p m
  bel : Below w.heap.size w wr
theorem below_of_only {w w' : World} {B b : Nat} (h : w.grownBy w' (some b)) (hB : B ≤ b) (hg : B ≤ w.heap.size) : Below B w w' := below_of_grown h hB hg

end Go.Proofs.Ytoiabaienhchjaa
