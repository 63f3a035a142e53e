/- The walk of DriftTurns: it returns true and writes nothing that was there. Conditions: none beyond that the arguments can be read. -/
import Derived.Test.YtdgamdjfcamnlaaE
namespace Go.Proofs.Ytdgamdjfcamnlaa
open Go.RowKit
set_option linter.unusedVariables false

def Apart (a b : Value) : Prop := ∀ k, a.ownBlock = some k → b.ownBlock ≠ some k
theorem Apart.kept {a b : Value} (h : Apart a b) : a.ownBlock = none ∨ a.ownBlock ≠ b.ownBlock := by
  rcases e : a.ownBlock with _ | k
  · exact .inl rfl
  · exact .inr (fun h2 => h k e h2.symm)
theorem Apart.symm {a b : Value} (h : Apart a b) : Apart b a := fun k hk hk2 => h k hk2 hk

/-- what an append to a does to another list of the call's own -/
theorem two_step {w wr w1 : World} {xs ys : List Int} {n m : Nat} {a a' b : Value} {o : Obj}
    (hbel : Below w.heap.size w wr) (ha : wr.ownsRow w.heap.size 3 1 a n (vi xs)) (hb : wr.ownsRow w.heap.size 3 1 b m (vi ys)) (hab : Apart a b)
    (hg : (wr.alloc o).grownBy w1 a.ownBlock) (hat : a'.ownBlock = a.ownBlock ∨ a'.ownBlock = some (wr.alloc o).heap.size) :
    Below w.heap.size w w1 ∧ w1.ownsRow w.heap.size 3 1 b m (vi ys) ∧ Apart a' b := by
  refine ⟨(hbel.alloc hbel.size _).grown hg (by simp; have := hbel.size; omega) (fun q hq => (ha.lt q hq).1), (hb.alloc _).kept hg hab.symm.kept, fun k hk hk2 => ?_⟩
  rcases hat with h | h
  · exact hab k (h.symm.trans hk) hk2
  · rw [hk] at h
    injection h with h
    have := (hb.lt k hk2).2
    simp at h
    omega

theorem turnL_vi (n s k : Nat) : vi (turnL n s (k + 1)) = vi (turnL n s k) ++ [.int .i64 (((s + k) % n : Nat) : Int)] := by
  show vi (turnL n s k ++ [(((s + k) % n : Nat) : Int)]) = _
  rw [vi_append]
  rfl
theorem turn2L_vi (n s k : Nat) : vi (turn2L n s (k + 1)) = vi (turn2L n s k) ++ [.int .i64 (((s + k) % n : Nat) : Int), .int .i64 (((s + k) % n : Nat) : Int)] := by
  show vi (turn2L n s k ++ [(((s + k) % n : Nat) : Int)] ++ [(((s + k) % n : Nat) : Int)]) = _
  rw [List.append_assoc, vi_append]
  rfl
theorem mul_le (n r : Nat) (hn : n ≤ 9) (hr : r ≤ 6) : n * r ≤ 54 := Nat.mul_le_mul hn hr

set_option maxHeartbeats 1000000 in
theorem turns_walk (a0 a1 a2 : Int) (w : World) (w0 : (Lit.int .i64 a0).wf = true) (w1 : (Lit.int .i64 a1).wf = true) (w2 : (Lit.int .i64 a2).wf = true) :
    Calls Try.prog 5 #[.int .i64 a0, .int .i64 a1, .int .i64 a2] w fun e w' => e = .returned (.bool true) ∧ Below w.heap.size w w' := by
  obtain ⟨n', hn2, hn9, hwn⟩ := within_mid a0 2 9 (by omega)
  obtain ⟨n, rfl⟩ := Int.eq_ofNat_of_zero_le (show 0 ≤ n' by omega)
  obtain ⟨r', hr1, hr6, hwr⟩ := within_mid a1 1 6 (by omega)
  obtain ⟨r, rfl⟩ := Int.eq_ofNat_of_zero_le (show 0 ≤ r' by omega)
  obtain ⟨s', hs0, hsn, hws⟩ := within_mid a2 0 ((n : Int) - 1) (by omega)
  obtain ⟨s, rfl⟩ := Int.eq_ofNat_of_zero_le hs0
  have H1 := hide hwn
  have H2 := hide hwr
  have H3 := hide hws
  have hT54 := mul_le n r (by omega) (by omega)
  have hTp : 0 < n * r := Nat.mul_pos (by omega) (by omega)
  have hmul : (n : Int) * (r : Int) = ((n * r : Nat) : Int) := by simp
  have hpn : 0 < n := by omega
  have K1 : Hid (holdsB (turnL n s (n * r)) n 1 = true) := (holdsB_iff _ _ _).2 ⟨by unfold mayB; rw [decide_eq_true_iff]; omega, (turnL_ok n s _ hpn).2⟩
  have K2 : Hid (holdsB (turn2L n s (n * r)) n 2 = true) := (holdsB_iff _ _ _).2 ⟨by unfold mayB; rw [decide_eq_true_iff]; omega, (turn2L_ok n s _ hpn).2⟩
  have K3 : Hid (fstI (turn2L n s (n * r)) n 1 = 1) := show _ = _ by
    unfold fstI
    rw [if_pos (by unfold mayB; rw [decide_eq_true_iff]; omega)]
    exact turn2L_first n s _ (by omega) hTp
  generalize n * r = T at *
  have HMul := Lib.hid hmul
  obtain ⟨i0, hi0, hz0, hz1, hz2⟩ := info_parts int_info
  have HI := Lib.hid hi0
  have HZ0 := Lib.hid hz0
  have HZ1 := Lib.hid hz1
  have HZ2 := Lib.hid hz2
  clear hi0 hz0 hz1 hz2 hwn hwr hws w0 w1 w2 hs0
  go_enter Try.func5, Try.ntmps5
  go_wp2_with (first | (refine (unhide H1 _).mono ?_; rintro e w' ⟨rfl, rfl⟩; clear H1) | (refine (unhide H2 _).mono ?_; rintro e w' ⟨rfl, rfl⟩; clear H2) | (refine (unhide H3 _).mono ?_; rintro e w' ⟨rfl, rfl⟩; clear H3))
  go_loopw [7, 8, 9, 10] (fun a b i _ wr => ∃ k : Nat, k ≤ T ∧ i = .int .i64 k ∧ wr.ownsRow w.heap.size 3 1 a k (vi (turnL n s k)) ∧ wr.ownsRow w.heap.size 3 1 b (2 * k) (vi (turn2L n s k)) ∧ Apart a b ∧ Below w.heap.size w wr) (fun _ _ i _ _ => T - (intOf i).toNat)
  case atStart => exact ⟨0, Nat.zero_le _, rfl, ⟨by rfl, .inl ⟨rfl, rfl⟩⟩, ⟨by rfl, .inl ⟨rfl, rfl⟩⟩, fun k h => by simp [Value.ownBlock] at h, Below.refl _ _⟩
  case round =>
    obtain ⟨k, hk, rfl, hown7, hown8, hap, hbel⟩ := hrel
    by_cases hlt : k < T
    · have HL1 : Hid (vi (turnL n s (k + 1)) = vi (turnL n s k) ++ [.int .i64 (((s + k) % n : Nat) : Int)]) := turnL_vi n s k
      have HL2 : Hid (vi (turn2L n s (k + 1)) = vi (turn2L n s k) ++ [.int .i64 (((s + k) % n : Nat) : Int), .int .i64 (((s + k) % n : Nat) : Int)]) := turn2L_vi n s k
      have hmod : ((s : Int) + (k : Int)) % (n : Int) = (((s + k) % n : Nat) : Int) := by simp
      have hm := HMul.out
      generalize (s + k) % n = p at *
      go_wp2_with (first
        | (at_builtin
           refine wpList_append_any _ rfl (.tmp 31) (.tmp 33) _ rfl w.heap.size 3 i0 _ 1 8 Try.underlying22 HI.out HZ0.out HZ1.out HZ2.out rfl (by omega) u7 k _ rfl
             (hown7.alloc _) (wr.heap.size + 1) _ 1 _ [.int .i64 (p : Int)] rfl (reads_one wr _ _) (by simp [Value.oneCell']) (by simp only [maxLen]; omega) (by omega) (by simp; have := hbel.size; omega) ?_
           intro v3 w3 hown3 hg3 hat3
           obtain ⟨hb3, hown8b, hap3⟩ := two_step hbel hown7 hown8 hap hg3 hat3)
        | (at_builtin
           refine wpList_append_any _ rfl (.tmp 35) (.tmp 38) _ rfl w.heap.size 3 i0 _ 1 8 Try.underlying22 HI.out HZ0.out HZ1.out HZ2.out rfl (by omega) u8 (2 * k) _ rfl
             (hown8b.alloc _) _ _ 2 _ (vi [(p : Int), (p : Int)]) rfl (reads_new w3 [(p : Int), (p : Int)]) (one_vi _) (by simp only [maxLen]; omega) (by omega) (by simp; have := hb3.size; omega) ?_
           intro v4 w4 hown4 hg4 hat4
           rw [← HL1.out] at hown3
           obtain ⟨hb4, hown7b, hap4⟩ := two_step hb3 hown8b hown3 hap3.symm hg4 hat4))
      go_roundw
      case rel =>
        refine ⟨k + 1, by omega, by go_num, hown7b, ?_, hap4.symm, hb4⟩
        rw [HL2.out]
        exact hown4
      case measure => simp [intOf]; omega
    · have hkT : k = T := by omega
      subst hkT
      obtain ⟨A7, c7, rfl⟩ := slice_form hown7
      obtain ⟨A8, c8, rfl⟩ := slice_form hown8
      have hr7 := Reads.of_own hown7
      have hr8 := Reads.of_own hown8
      have L1 : Hid ((turnL n s k).length = k) := turnL_len _ _ _
      have L2 : Hid ((turn2L n s k).length = 2 * k) := turn2L_len _ _ _
      have hm := HMul.out
      go_wp2_with fail
      refine (holds_any _ _ _ (turnL n s k) _ _ _ hr7 L1.out (by omega)).mono ?_
      rw [K1.out]
      rintro e w3 ⟨rfl, hb3⟩
      have hr8 := (hr8.below hb3).more hb3.size
      have hb3 := hbel.trans (hb3.mono hbel.size)
      go_wp2_with fail
      refine (holds_any _ _ _ (turn2L n s k) _ _ _ hr8 L2.out (by omega)).mono ?_
      rw [K2.out]
      rintro e w4 ⟨rfl, hb4⟩
      have hr8 := (hr8.below hb4).more hb4.size
      have hb4 := hb3.trans (hb4.mono hb3.size)
      go_wp2_with fail
      refine (first_any _ _ _ (turn2L n s k) _ _ _ hr8 L2.out (by omega)).mono ?_
      rw [K3.out]
      rintro e w5 ⟨rfl, hb5⟩
      have hb5 := hb4.trans (hb5.mono hb4.size)
      go_wp2_with fail
      refine (lives_any _).mono ?_
      rintro e w6 ⟨rfl, hb6⟩
      have hb6 := hb5.trans (hb6.mono hb5.size)
      go_wp2_with fail
      go_ret
      exact ⟨rfl, hb6⟩

end Go.Proofs.Ytdgamdjfcamnlaa
