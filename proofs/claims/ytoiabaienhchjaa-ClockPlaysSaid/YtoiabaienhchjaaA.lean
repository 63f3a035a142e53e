/- Contracts of the clock: has, with, ok, wrong. -/
import Derived.Test.YtoiabaienhchjaaWords
import Derived.WalkKit
import Derived.WalkSpells
import Derived.WalkLawsBesides
import Derived.Outline
import Derived.Below
import Derived.BigQuiet
import Derived.BigRegion
import Derived.IntWalk
import Derived.Deep.MidRow
import Derived.Laws.ShiftsVarLaws
namespace Go.Proofs.Ytoiabaienhchjaa
open Go.RowKit
set_option linter.unusedVariables false

/-- the set `s` with place `k` put in or taken out -/
def put (s k : Nat) (on : Bool) : Nat := if on then s ||| 2 ^ k else s &&& (18446744073709551615 - 2 ^ k)
theorem put_bit (s k : Nat) (on : Bool) (hs : s < 18446744073709551616) (hk : k < 64) (j : Nat) : (put s k on).testBit j = if j = k then on else s.testBit j := by
  cases on <;> simp only [put, if_true, if_false, Bool.false_eq_true]
  · have h2 : (2 ^ k : Nat) < 2 ^ 64 := Nat.pow_lt_pow_right (by omega) hk
    have e : 18446744073709551615 - 2 ^ k = 2 ^ 64 - (2 ^ k + 1) := by omega
    rw [e, Nat.testBit_and, Nat.testBit_two_pow_sub_succ h2, Nat.testBit_two_pow]
    by_cases h : j = k
    · subst h; simp
    · by_cases hj : j < 64
      · simp [h, hj, Ne.symm h]
      · have : s.testBit j = false := Nat.testBit_lt_two_pow (Nat.lt_of_lt_of_le (m := 2 ^ 64) (by omega) (Nat.pow_le_pow_right (by omega) (by omega)))
        simp [h, this]
  · rw [Nat.testBit_or, Nat.testBit_two_pow]
    by_cases h : j = k
    · subst h; simp
    · simp [h, Ne.symm h]
theorem put_lt (s k : Nat) (on : Bool) (hs : s < 18446744073709551616) (hk : k < 64) : put s k on < 18446744073709551616 := by
  cases on <;> simp only [put, if_true, if_false, Bool.false_eq_true]
  · exact Nat.lt_of_le_of_lt Nat.and_le_left hs
  · have h2 : (2 ^ k : Nat) < 2 ^ 64 := Nat.pow_lt_pow_right (by omega) hk
    exact Nat.or_lt_two_pow (n := 64) hs h2
theorem pow_wrap (k : Nat) (hk : k < 64) : IntKind.u64.wrap ((2 : Int) ^ k) = ((2 ^ k : Nat) : Int) := by
  have h2 : (2 ^ k : Nat) < 2 ^ 64 := Nat.pow_lt_pow_right (by omega) hk
  have e : ((2 : Int) ^ k) = ((2 ^ k : Nat) : Int) := by simp
  rw [IntKind.wrap_u64, e]
  have h3 : ((2 ^ k : Nat) : Int) < 18446744073709551616 := Int.ofNat_lt.2 h2
  exact Int.emod_eq_of_lt (Int.natCast_nonneg _) h3

theorem has_at (s k : Nat) (w : World) (hs : s < 18446744073709551616) (hk : k < 64) :
    Calls Try.prog 27 #[.int .u64 (s : Int), .int .i64 (k : Int)] w fun e w' => e = .returned (.bool (s.testBit k)) ∧ w = w' := by
  go_enter Try.func27, Try.ntmps27
  go_wp2
  go_ret
  refine ⟨?_, rfl⟩
  have e : ((s : Int) / 2 ^ k) = ((s / 2 ^ k : Nat) : Int) := by simp
  have h1 : s / 2 ^ k < 18446744073709551616 := Nat.lt_of_le_of_lt (Nat.div_le_self _ _) hs
  have e2 : bits .and .u64 ((s : Int) / 2 ^ k) 1 = ((s / 2 ^ k % 2 : Nat) : Int) := by
    rw [e]
    have := u64_and_nat (s / 2 ^ k) 1 h1 (by decide)
    rw [Nat.and_one_is_mod] at this
    exact this
  show Ending.returned (.bool (bits .and .u64 ((s : Int) / 2 ^ k) 1 == 1)) = _
  rw [e2, Nat.testBit_eq_decide_div_mod_eq]
  congr 2
  by_cases h : s / 2 ^ k % 2 = 1
  · rw [h]; rfl
  · have : s / 2 ^ k % 2 = 0 := by omega
    rw [this]; rfl

theorem with_at (s k : Nat) (on : Bool) (w : World) (hs : s < 18446744073709551616) (hk : k < 64) :
    Calls Try.prog 28 #[.int .u64 (s : Int), .int .i64 (k : Int), .bool on] w fun e w' => e = .returned (.int .u64 (put s k on : Nat)) ∧ w = w' := by
  have hw := pow_wrap k hk
  have h2 : (2 ^ k : Nat) < 2 ^ 64 := Nat.pow_lt_pow_right (by omega) hk
  cases on
  · go_enter Try.func28, Try.ntmps28
    go_wp2
    go_ret
    refine ⟨?_, rfl⟩
    show Ending.returned (.int .u64 (bits .andNot .u64 (s : Int) ((2 : Int) ^ k))) = _
    rw [show ((2 : Int) ^ k) = ((2 ^ k : Nat) : Int) by simp, u64_andNot_nat _ _ hs h2]; rfl
  · go_enter Try.func28, Try.ntmps28
    go_wp2
    go_ret
    refine ⟨?_, rfl⟩
    show Ending.returned (.int .u64 (bits .or .u64 (s : Int) ((2 : Int) ^ k))) = _
    rw [show ((2 : Int) ^ k) = ((2 ^ k : Nat) : Int) by simp, u64_or_nat _ _ hs h2]; rfl

/-- a ring that serves nobody: nil, or of no place -/
def Nobody (w : World) (a : Option Addr) : Prop := a = none ∨ ∃ b, a = some ⟨b, 0, none⟩ ∧ w.cell? ⟨b, 0, none⟩ = some (.int .i64 0)
/-- the cells of a ring -/
def rcells (n u p m h : Nat) : Array Value := #[.int .i64 (n : Int), .int .u64 (u : Int), .int .u64 (p : Int), .int .u64 (m : Int), .int .i64 (h : Int)]
structure Ring (w : World) (b n u p m h : Nat) : Prop where
  blk : Blk w b 55 (rcells n u p m h)
  n1 : 0 < n
  n64 : n ≤ 64
  hn : h < n
  ul : u < 18446744073709551616
  pl : p < 18446744073709551616
  ml : m < 18446744073709551616
section
variable {w w' : World} {b n u p m h : Nat}
theorem Ring.n_ (hr : Ring w b n u p m h) : w.cell? ⟨b, 0, none⟩ = some (.int .i64 (n : Int)) := hr.blk.cell 0
theorem Ring.u_ (hr : Ring w b n u p m h) : w.cell? ⟨b, 1, none⟩ = some (.int .u64 (u : Int)) := hr.blk.cell 1
theorem Ring.p_ (hr : Ring w b n u p m h) : w.cell? ⟨b, 2, none⟩ = some (.int .u64 (p : Int)) := hr.blk.cell 2
theorem Ring.m_ (hr : Ring w b n u p m h) : w.cell? ⟨b, 3, none⟩ = some (.int .u64 (m : Int)) := hr.blk.cell 3
theorem Ring.h_ (hr : Ring w b n u p m h) : w.cell? ⟨b, 4, none⟩ = some (.int .i64 (h : Int)) := hr.blk.cell 4
theorem Ring.below {B : Nat} (hr : Ring w b n u p m h) (hb : Below B w w') (hg : b < B) : Ring w' b n u p m h := ⟨hr.blk.below hb hg, hr.n1, hr.n64, hr.hn, hr.ul, hr.pl, hr.ml⟩
theorem Ring.grown {row : Option Nat} (hr : Ring w b n u p m h) (hb : w.grownBy w' row) (hg : some b ≠ row) : Ring w' b n u p m h := ⟨hr.blk.grown hb hg, hr.n1, hr.n64, hr.hn, hr.ul, hr.pl, hr.ml⟩
theorem Ring.lt (hr : Ring w b n u p m h) : b < w.heap.size := hr.blk.lt
end
theorem grown_set (w : World) (b i : Nat) (v : Value) : w.grownBy (w.setCell ⟨b, i, none⟩ v) (some b) :=
  ⟨rfl, rfl, rfl, by simp [World.setCell], fun k hk hne => Below.heap_setCell w _ v k (fun e => hne (by rw [e]))⟩
theorem grown_then {a b c : World} {row : Option Nat} (h : a.grownBy b row) (k : b.grownBy c row) : a.grownBy c row :=
  ⟨k.os.trans h.os, k.tape.trans h.tape, k.output.trans h.output, Nat.le_trans h.size k.size, fun j hj hne => (k.block j (Nat.lt_of_lt_of_le hj h.size) hne).trans (h.block j hj hne)⟩
theorem grown_drew {a b : World} {row : Option Nat} (h : a.grownBy b row) : a.grownBy b.drew row := ⟨h.os, h.tape, h.output, h.size, h.block⟩

theorem ok_nobody (a : Option Addr) (w : World) (h : Nobody w a) : Calls Try.prog 25 #[.pointer a] w fun e w' => e = .returned (.bool false) ∧ w = w' := by
  rcases h with rfl | ⟨b, rfl, hc⟩ <;>
  · go_enter Try.func25, Try.ntmps25
    go_wp2
    go_ret
    exact ⟨rfl, rfl⟩
theorem ok_ring (b n u p m h : Nat) (w : World) (hr : Ring w b n u p m h) : Calls Try.prog 25 #[.pointer (some ⟨b, 0, none⟩)] w fun e w' => e = .returned (.bool true) ∧ w = w' := by
  have hc := hr.n_
  have h0 : decide ((n : Int) > 0) = true := by rw [decide_eq_true_iff]; have := hr.n1; omega
  have h1 := hr.n1
  clear hr
  go_enter Try.func25, Try.ntmps25
  go_wp2
  go_ret
  refine ⟨?_, rfl⟩
  simp
theorem wrong_nobody (a : Option Addr) (i : Int) (w : World) (h : Nobody w a) : Calls Try.prog 31 #[.pointer a, .int .i64 i] w fun e w' => e = .returned (.int .i64 1) ∧ w = w' := by
  go_enter Try.func31, Try.ntmps31
  go_wp2_with (go_at_call 25; refine (ok_nobody a w h).mono ?_; rintro e w' ⟨rfl, rfl⟩)
  go_ret
  exact ⟨rfl, rfl⟩
theorem wrong_in (b n u p m h k : Nat) (w : World) (hr : Ring w b n u p m h) (hk : k < n) : Calls Try.prog 31 #[.pointer (some ⟨b, 0, none⟩), .int .i64 (k : Int)] w fun e w' => e = .returned (.int .i64 0) ∧ w = w' := by
  have HR := Lib.hid hr
  have hc := hr.n_
  clear hr
  go_enter Try.func31, Try.ntmps31
  go_wp2_with (go_at_call 25; refine (ok_ring b n u p m h w HR.out).mono ?_; rintro e w' ⟨rfl, rfl⟩)
  go_ret
  exact ⟨rfl, rfl⟩
theorem wrong_out (b n u p m h : Nat) (i : Int) (w : World) (hr : Ring w b n u p m h) (hk : ¬ (0 ≤ i ∧ i < n)) : Calls Try.prog 31 #[.pointer (some ⟨b, 0, none⟩), .int .i64 i] w fun e w' => e = .returned (.int .i64 2) ∧ w = w' := by
  have HR := Lib.hid hr
  have hc := hr.n_
  clear hr
  by_cases h0 : i < 0
  · clear hk
    go_enter Try.func31, Try.ntmps31
    go_wp2_with (go_at_call 25; refine (ok_ring b n u p m h w HR.out).mono ?_; rintro e w' ⟨rfl, rfl⟩)
    go_ret
    exact ⟨rfl, rfl⟩
  · have h2 : (n : Int) ≤ i := by omega
    clear hk
    go_enter Try.func31, Try.ntmps31
    go_wp2_with (go_at_call 25; refine (ok_ring b n u p m h w HR.out).mono ?_; rintro e w' ⟨rfl, rfl⟩)
    go_ret
    exact ⟨rfl, rfl⟩

end Go.Proofs.Ytoiabaienhchjaa
