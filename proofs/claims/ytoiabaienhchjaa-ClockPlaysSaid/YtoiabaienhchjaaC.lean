/- Contracts of the clock: New, Use, Drop, Touch, Pin, Unpin, Hand. -/
import Derived.Test.YtoiabaienhchjaaB
namespace Go.Proofs.Ytoiabaienhchjaa
open Go.RowKit
set_option linter.unusedVariables false

theorem new_bad (n : Int) (w : World) (hn : n < 1 ∨ 64 < n) : Calls Try.prog 7 #[.int .i64 n] w fun e w' => e = .returned (.tuple #[.pointer none, .int .i64 2]) ∧ w = w' := by
  by_cases h1 : n < 1
  · clear hn
    go_enter Try.func7, Try.ntmps7
    go_wp2
    go_ret2
    exact ⟨rfl, rfl⟩
  · have h2 : 64 < n := by omega
    clear hn
    go_enter Try.func7, Try.ntmps7
    go_wp2
    go_ret2
    exact ⟨rfl, rfl⟩
theorem new_ok (n : Nat) (w : World) (h1 : 0 < n) (h2 : n ≤ 64) : Calls Try.prog 7 #[.int .i64 (n : Int)] w fun e w' => e = .returned (.tuple #[.pointer (some ⟨w.heap.size, 0, none⟩), .int .i64 0]) ∧ w' = w.alloc (.cells (rcells n 0 0 0 0) 55) := by
  go_enter Try.func7, Try.ntmps7
  go_wp2
  go_ret2
  exact ⟨rfl, rfl⟩
theorem ring_new (w : World) (n : Nat) (h1 : 0 < n) (h2 : n ≤ 64) : Ring (w.alloc (.cells (rcells n 0 0 0 0) 55)) w.heap.size n 0 0 0 0 :=
  ⟨Blk.new w 55 _, h1, h2, h1, by omega, by omega, by omega⟩
theorem hand_nobody (a : Option Addr) (w : World) (h : Nobody w a) : Calls Try.prog 19 #[.pointer a] w fun e w' => e = .returned (.int .i64 0) ∧ w = w' := by
  go_enter Try.func19, Try.ntmps19
  go_wp2_with (go_at_call 25; refine (ok_nobody a w h).mono ?_; rintro e w' ⟨rfl, rfl⟩)
  go_ret
  exact ⟨rfl, rfl⟩
theorem hand_ring (b n u p m h : Nat) (w : World) (hr : Ring w b n u p m h) : Calls Try.prog 19 #[.pointer (some ⟨b, 0, none⟩)] w fun e w' => e = .returned (.int .i64 (h : Int)) ∧ w = w' := by
  have HR := Lib.hid hr
  have hc := hr.h_
  clear hr
  go_enter Try.func19, Try.ntmps19
  go_wp2_with (go_at_call 25; refine (ok_ring b n u p m h w HR.out).mono ?_; rintro e w' ⟨rfl, rfl⟩)
  go_ret
  exact ⟨rfl, rfl⟩

/-- what a call that names a place does: 0 Use, 1 Drop, 2 Touch, 3 Pin, else Unpin -/
def Nob (k : Nat) (a : Option Addr) (i : Int) : Prop := ∀ w, Nobody w a → Calls Try.prog k #[.pointer a, .int .i64 i] w fun e w' => e = .returned (.int .i64 1) ∧ w = w'
theorem use_nobody (a : Option Addr) (i : Int) : Nob 20 a i := fun w h => by
  go_enter Try.func20, Try.ntmps20
  go_wp2_with (go_at_call 29; refine (turn_nobody a i _ _ _ w h).mono ?_; rintro e w' ⟨rfl, rfl⟩)
  go_ret
  exact ⟨rfl, rfl⟩
theorem drop_nobody (a : Option Addr) (i : Int) : Nob 21 a i := fun w h => by
  go_enter Try.func21, Try.ntmps21
  go_wp2_with (go_at_call 29; refine (turn_nobody a i _ _ _ w h).mono ?_; rintro e w' ⟨rfl, rfl⟩)
  go_ret
  exact ⟨rfl, rfl⟩
theorem touch_nobody (a : Option Addr) (i : Int) : Nob 22 a i := fun w h => by
  go_enter Try.func22, Try.ntmps22
  go_wp2_with (go_at_call 30; refine (lives_nobody a i w h).mono ?_; rintro e w' ⟨rfl, rfl⟩)
  go_ret
  exact ⟨rfl, rfl⟩
theorem pin_nobody (a : Option Addr) (i : Int) : Nob 23 a i := fun w h => by
  go_enter Try.func23, Try.ntmps23
  go_wp2_with (go_at_call 30; refine (lives_nobody a i w h).mono ?_; rintro e w' ⟨rfl, rfl⟩)
  go_ret
  exact ⟨rfl, rfl⟩
theorem unpin_nobody (a : Option Addr) (i : Int) : Nob 24 a i := fun w h => by
  go_enter Try.func24, Try.ntmps24
  go_wp2_with (go_at_call 31; refine (wrong_nobody a i w h).mono ?_; rintro e w' ⟨rfl, rfl⟩)
  go_ret
  exact ⟨rfl, rfl⟩

def Out (f : Nat) : Prop := ∀ (b n u p m h : Nat) (i : Int) (w : World), Ring w b n u p m h → ¬ (0 ≤ i ∧ i < n) → Calls Try.prog f #[.pointer (some ⟨b, 0, none⟩), .int .i64 i] w fun e w' => e = .returned (.int .i64 2) ∧ w = w'
theorem use_out : Out 20 := fun b n u p m h i w hr hk => by
  have HT := hide (turn_out b n u p m h i true false true w hr hk)
  clear hr hk
  go_enter Try.func20, Try.ntmps20
  go_wp2_with (go_at_call 29; refine (unhide HT).mono ?_; rintro e w' ⟨rfl, rfl⟩)
  go_ret
  exact ⟨rfl, rfl⟩
theorem drop_out : Out 21 := fun b n u p m h i w hr hk => by
  have HT := hide (turn_out b n u p m h i false false false w hr hk)
  clear hr hk
  go_enter Try.func21, Try.ntmps21
  go_wp2_with (go_at_call 29; refine (unhide HT).mono ?_; rintro e w' ⟨rfl, rfl⟩)
  go_ret
  exact ⟨rfl, rfl⟩
theorem touch_out : Out 22 := fun b n u p m h i w hr hk => by
  have HT := hide (lives_out b n u p m h i w hr hk)
  clear hr hk
  go_enter Try.func22, Try.ntmps22
  go_wp2_with (go_at_call 30; refine (unhide HT).mono ?_; rintro e w' ⟨rfl, rfl⟩)
  go_ret
  exact ⟨rfl, rfl⟩
theorem pin_out : Out 23 := fun b n u p m h i w hr hk => by
  have HT := hide (lives_out b n u p m h i w hr hk)
  clear hr hk
  go_enter Try.func23, Try.ntmps23
  go_wp2_with (go_at_call 30; refine (unhide HT).mono ?_; rintro e w' ⟨rfl, rfl⟩)
  go_ret
  exact ⟨rfl, rfl⟩
theorem unpin_out : Out 24 := fun b n u p m h i w hr hk => by
  have HT := hide (wrong_out b n u p m h i w hr hk)
  clear hr hk
  go_enter Try.func24, Try.ntmps24
  go_wp2_with (go_at_call 31; refine (unhide HT).mono ?_; rintro e w' ⟨rfl, rfl⟩)
  go_ret
  exact ⟨rfl, rfl⟩

theorem use_in (b n u p m h k : Nat) (w : World) (hr : Ring w b n u p m h) (hk : k < n) :
    Calls Try.prog 20 #[.pointer (some ⟨b, 0, none⟩), .int .i64 (k : Int)] w fun e w' => e = .returned (.int .i64 0) ∧ Ring w' b n (put u k true) (put p k false) (put m k true) h ∧ w.grownBy w' (some b) := by
  have HT := hide (turn_in b n u p m h k true false true w hr hk)
  clear hr hk
  go_enter Try.func20, Try.ntmps20
  go_wp2_with (go_at_call 29; refine (unhide HT).mono ?_; rintro e w' ⟨rfl, h1, h2⟩)
  go_ret
  exact ⟨rfl, h1, h2⟩
theorem drop_in (b n u p m h k : Nat) (w : World) (hr : Ring w b n u p m h) (hk : k < n) :
    Calls Try.prog 21 #[.pointer (some ⟨b, 0, none⟩), .int .i64 (k : Int)] w fun e w' => e = .returned (.int .i64 0) ∧ Ring w' b n (put u k false) (put p k false) (put m k false) h ∧ w.grownBy w' (some b) := by
  have HT := hide (turn_in b n u p m h k false false false w hr hk)
  clear hr hk
  go_enter Try.func21, Try.ntmps21
  go_wp2_with (go_at_call 29; refine (unhide HT).mono ?_; rintro e w' ⟨rfl, h1, h2⟩)
  go_ret
  exact ⟨rfl, h1, h2⟩
theorem touch_none (b n u p m h k : Nat) (w : World) (hr : Ring w b n u p m h) (hk : k < n) (ht : u.testBit k = false) :
    Calls Try.prog 22 #[.pointer (some ⟨b, 0, none⟩), .int .i64 (k : Int)] w fun e w' => e = .returned (.int .i64 11) ∧ w = w' := by
  have HT := lives_at b n u p m h k w hr hk
  rw [ht] at HT
  have HT := hide HT
  clear hr hk
  go_enter Try.func22, Try.ntmps22
  go_wp2_with (go_at_call 30; refine (unhide HT).mono ?_; rintro e w' ⟨rfl, rfl⟩)
  go_ret
  exact ⟨rfl, rfl⟩
theorem pin_none (b n u p m h k : Nat) (w : World) (hr : Ring w b n u p m h) (hk : k < n) (ht : u.testBit k = false) :
    Calls Try.prog 23 #[.pointer (some ⟨b, 0, none⟩), .int .i64 (k : Int)] w fun e w' => e = .returned (.int .i64 11) ∧ w = w' := by
  have HT := lives_at b n u p m h k w hr hk
  rw [ht] at HT
  have HT := hide HT
  clear hr hk
  go_enter Try.func23, Try.ntmps23
  go_wp2_with (go_at_call 30; refine (unhide HT).mono ?_; rintro e w' ⟨rfl, rfl⟩)
  go_ret
  exact ⟨rfl, rfl⟩
theorem touch_in (b n u p m h k : Nat) (w : World) (hr : Ring w b n u p m h) (hk : k < n) (ht : u.testBit k = true) :
    Calls Try.prog 22 #[.pointer (some ⟨b, 0, none⟩), .int .i64 (k : Int)] w fun e w' => e = .returned (.int .i64 0) ∧ Ring w' b n (put u k true) (put p k (p.testBit k)) (put m k true) h ∧ w.grownBy w' (some b) := by
  have HT := lives_at b n u p m h k w hr hk
  rw [ht] at HT
  have HT := hide HT
  have H2 := hide (turn_in b n u p m h k true (p.testBit k) true w hr hk)
  have H3 := hide (has_at p k w hr.pl (Nat.lt_of_lt_of_le hk hr.n64))
  have hc := hr.p_
  clear hr hk
  go_enter Try.func22, Try.ntmps22
  go_wp2_with (first
    | (go_at_call 30; refine (unhide HT).mono ?_; rintro e w' ⟨rfl, rfl⟩)
    | (go_at_call 27; refine (unhide H3).mono ?_; rintro e w' ⟨rfl, rfl⟩)
    | (go_at_call 29; refine (unhide H2).mono ?_; rintro e w' ⟨rfl, h1, h2⟩))
  go_ret
  exact ⟨rfl, h1, h2⟩
theorem pin_in (b n u p m h k : Nat) (w : World) (hr : Ring w b n u p m h) (hk : k < n) (ht : u.testBit k = true) :
    Calls Try.prog 23 #[.pointer (some ⟨b, 0, none⟩), .int .i64 (k : Int)] w fun e w' => e = .returned (.int .i64 0) ∧ Ring w' b n (put u k true) (put p k true) (put m k (m.testBit k)) h ∧ w.grownBy w' (some b) := by
  have HT := lives_at b n u p m h k w hr hk
  rw [ht] at HT
  have HT := hide HT
  have H2 := hide (turn_in b n u p m h k true true (m.testBit k) w hr hk)
  have H3 := hide (has_at m k w hr.ml (Nat.lt_of_lt_of_le hk hr.n64))
  have hc := hr.m_
  clear hr hk
  go_enter Try.func23, Try.ntmps23
  go_wp2_with (first
    | (go_at_call 30; refine (unhide HT).mono ?_; rintro e w' ⟨rfl, rfl⟩)
    | (go_at_call 27; refine (unhide H3).mono ?_; rintro e w' ⟨rfl, rfl⟩)
    | (go_at_call 29; refine (unhide H2).mono ?_; rintro e w' ⟨rfl, h1, h2⟩))
  go_ret
  exact ⟨rfl, h1, h2⟩

end Go.Proofs.Ytoiabaienhchjaa
