/- Contract of the clock's Next. -/
import Derived.Test.YtoiabaienhchjaaD
namespace Go.Proofs.Ytoiabaienhchjaa
open Go.RowKit
set_option linter.unusedVariables false

/-- the hand's way: which place it stops at, which marks are left, where the hand is then -/
def spin (n p : Nat) : Nat → Nat → Nat → Option (Nat × Nat × Nat)
  | 0, _, _ => none
  | f + 1, m, h => if p.testBit h then spin n p f m ((h + 1) % n) else if m.testBit h then spin n p f (put m h false) ((h + 1) % n) else some (h, m, (h + 1) % n)
/-- how many places it passes -/
def steps (n p : Nat) : Nat → Nat → Nat → Nat
  | 0, _, _ => 0
  | f + 1, m, h => if p.testBit h then steps n p f m ((h + 1) % n) + 1 else if m.testBit h then steps n p f (put m h false) ((h + 1) % n) + 1 else 0
theorem spin_more {n p : Nat} {r : Nat × Nat × Nat} : ∀ {f m h : Nat}, spin n p f m h = some r → spin n p (f + 1) m h = some r
  | f + 1, m, h, hs => by
    rw [spin] at hs ⊢
    split at hs
    · rename_i h1; rw [if_pos h1]; exact spin_more hs
    · rename_i h1
      rw [if_neg h1]
      split at hs
      · rename_i h2; rw [if_pos h2]; exact spin_more hs
      · rename_i h2; rw [if_neg h2]; exact hs
theorem steps_succ (n p f m h : Nat) : steps n p (f + 1) m h = if p.testBit h then steps n p f m ((h + 1) % n) + 1 else if m.testBit h then steps n p f (put m h false) ((h + 1) % n) + 1 else 0 := rfl
theorem steps_more {n p : Nat} {r : Nat × Nat × Nat} : ∀ {f m h : Nat}, spin n p f m h = some r → steps n p (f + 1) m h = steps n p f m h
  | f + 1, m, h, hs => by
    have e1 := steps_succ n p (f + 1) m h
    have e2 := steps_succ n p f m h
    rw [spin] at hs
    rw [e1, e2]
    split at hs
    · rename_i h1; rw [if_pos h1, if_pos h1, steps_more hs]
    · rename_i h1
      rw [if_neg h1, if_neg h1]
      split at hs
      · rename_i h2; rw [if_pos h2, if_pos h2, steps_more hs]
      · rename_i h2; rw [if_neg h2, if_neg h2]
theorem spin_next {n p F m h m2 : Nat} {r : Nat × Nat × Nat} (hs : spin n p F m h = some r) (hc : (p.testBit h = true ∧ m2 = m) ∨ (p.testBit h = false ∧ m.testBit h = true ∧ m2 = put m h false)) :
    spin n p F m2 ((h + 1) % n) = some r ∧ steps n p F m2 ((h + 1) % n) < steps n p F m h := by
  cases F with
  | zero => cases hs
  | succ f =>
    rcases hc with ⟨h1, rfl⟩ | ⟨h1, h2, rfl⟩
    · rw [spin, if_pos h1] at hs
      refine ⟨spin_more hs, ?_⟩
      rw [steps_more hs]
      conv => rhs; rw [steps, if_pos h1]
      omega
    · rw [spin, h1, if_neg (by simp), if_pos h2] at hs
      refine ⟨spin_more hs, ?_⟩
      rw [steps_more hs]
      conv => rhs; rw [steps, h1, if_neg (by simp), if_pos h2]
      omega
theorem Ring.drewN {w : World} {b n u p m h : Nat} (hr : Ring w b n u p m h) (k : Nat) : Ring (w.drewN k) b n u p m h := ⟨hr.blk.drewN k, hr.n1, hr.n64, hr.hn, hr.ul, hr.pl, hr.ml⟩
def natOf : Option Value → Nat
  | some (.int _ z) => z.toNat
  | _ => 0

set_option maxHeartbeats 400000 in
theorem next_free (b n u p m h kf : Nat) (w : World) (hr : Ring w b n u p m h) (hk : kf < n) (hall : ∀ j, j < kf → u.testBit j = true) (hf : u.testBit kf = false) :
    Calls Try.prog 11 #[.pointer (some ⟨b, 0, none⟩)] w fun e w' => e = .returned (.tuple #[.int .i64 (kf : Int), .int .i64 0]) ∧ w = w' := by
  have HR := Lib.hid hr
  have hn := hr.n_
  have hu := hr.u_
  have h64 := hr.n64
  have hul := hr.ul
  have HA := Lib.hid hall
  have HF := Lib.hid hf
  clear hr hall hf
  go_enter Try.func11, Try.ntmps11
  go_wp2_with (go_at_call 25; refine (ok_ring b n u p m h w HR.out).mono ?_; rintro e w' ⟨rfl, rfl⟩)
  go_loopw [13] (fun i wr => ∃ k : Nat, k ≤ kf ∧ i = .int .i64 k ∧ w = wr) (fun i _ => n - (intOf i).toNat)
  case atStart => exact ⟨0, Nat.zero_le _, rfl, by trivial⟩
  case round =>
    obtain ⟨k, hk2, rfl, rfl⟩ := hrel
    have hkn : k < n := by omega
    by_cases hlt : k < kf
    · have HT := Lib.hid (HA.out k hlt)
      go_wp2_with (go_at_call 27; refine (has_at u k _ hul (by omega)).mono ?_; rw [HT.out]; rintro e w' ⟨rfl, rfl⟩)
      go_roundw
      case rel => exact ⟨k + 1, by omega, by go_num, by trivial⟩
      case measure => simp [intOf]; omega
    · have HE : Hid (k = kf) := show _ = _ by omega
      have HT : Hid (u.testBit k = false) := show _ = _ by rw [HE.out]; exact HF.out
      go_wp2_with (go_at_call 27; refine (has_at u k _ hul (by omega)).mono ?_; rw [HT.out]; rintro e w' ⟨rfl, rfl⟩)
      go_ret2
      refine ⟨?_, rfl⟩
      show Ending.returned (.tuple #[.int .i64 (k : Int), .int .i64 0]) = _
      rw [HE.out]

set_option maxHeartbeats 400000 in
theorem next_full (b n u p m h : Nat) (w : World) (hr : Ring w b n u p m h) (hall : ∀ j, j < n → u.testBit j = true) (hf : p = u) :
    Calls Try.prog 11 #[.pointer (some ⟨b, 0, none⟩)] w fun e w' => e = .returned (.tuple #[.int .i64 (-1), .int .i64 8]) ∧ w.grownBy w' (some b) ∧ Ring w' b n u p m h := by
  subst hf
  have HR := Lib.hid hr
  have hn := hr.n_
  have hu := hr.u_
  have hp := hr.p_
  have h64 := hr.n64
  have hul := hr.ul
  have HA := Lib.hid hall
  clear hr hall
  go_enter Try.func11, Try.ntmps11
  go_wp2_with (go_at_call 25; refine (ok_ring b n p p m h w HR.out).mono ?_; rintro e w' ⟨rfl, rfl⟩)
  go_loopw [13] (fun i wr => ∃ k : Nat, k ≤ n ∧ i = .int .i64 k ∧ w = wr) (fun i _ => n - (intOf i).toNat)
  case atStart => exact ⟨0, Nat.zero_le _, rfl, by trivial⟩
  case round =>
    obtain ⟨k, hk2, rfl, rfl⟩ := hrel
    by_cases hlt : k < n
    · have HT := Lib.hid (HA.out k hlt)
      go_wp2_with (go_at_call 27; refine (has_at p k _ hul (by omega)).mono ?_; rw [HT.out]; rintro e w' ⟨rfl, rfl⟩)
      go_roundw
      case rel => exact ⟨k + 1, by omega, by go_num, by trivial⟩
      case measure => simp [intOf]; omega
    · go_wp2
      go_quiet (fail)
      go_wp2
      go_ret2
      exact ⟨rfl, only_drewN (World.grownBy.refl _ _) _, HR.out.drewN _⟩

set_option maxHeartbeats 4000000 in
theorem next_turn (b n u p m h F i m2 h2 : Nat) (w : World) (hr : Ring w b n u p m h) (hall : ∀ j, j < n → u.testBit j = true) (hf : p ≠ u) (hs : spin n p F m h = some (i, m2, h2)) :
    Calls Try.prog 11 #[.pointer (some ⟨b, 0, none⟩)] w fun e w' => e = .returned (.tuple #[.int .i64 (i : Int), .int .i64 0]) ∧ w.grownBy w' (some b) ∧ Ring w' b n u p m2 h2 := by
  have HR := Lib.hid hr
  have hn := hr.n_
  have hu := hr.u_
  have hp := hr.p_
  have h64 := hr.n64
  have hul := hr.ul
  have hpl := hr.pl
  have HA := Lib.hid hall
  have HS := Lib.hid hs
  have hpu : ((p : Int) == (u : Int)) = false := by rw [beq_eq_false_iff_ne]; omega
  clear hr hall hs hf
  go_enter Try.func11, Try.ntmps11
  go_wp2_with (go_at_call 25; refine (ok_ring b n u p m h w HR.out).mono ?_; rintro e w' ⟨rfl, rfl⟩)
  go_loopw [13] (fun i wr => ∃ k : Nat, k ≤ n ∧ i = .int .i64 k ∧ w = wr) (fun i _ => n - (intOf i).toNat)
  case atStart => exact ⟨0, Nat.zero_le _, rfl, by trivial⟩
  case round =>
    obtain ⟨k, hk2, rfl, rfl⟩ := hrel
    by_cases hlt : k < n
    · have HT := Lib.hid (HA.out k hlt)
      go_wp2_with (go_at_call 27; refine (has_at u k _ hul (by omega)).mono ?_; rw [HT.out]; rintro e w' ⟨rfl, rfl⟩)
      go_roundw
      case rel => exact ⟨k + 1, by omega, by go_num, by trivial⟩
      case measure => simp [intOf]; omega
    · go_wp2
      go_quiet (fail)
      go_wp2
      clear hn hu hp
      go_loopw [5] (fun _ wr => ∃ m1 h1 : Nat, Ring wr b n u p m1 h1 ∧ spin n p F m1 h1 = some (i, m2, h2) ∧ w.grownBy wr (some b)) (fun _ wr => steps n p F (natOf (wr.cell? ⟨b, 3, none⟩)) (natOf (wr.cell? ⟨b, 4, none⟩)))
      case atStart => exact ⟨m, h, HR.out.drewN _, HS.out, only_drewN (World.grownBy.refl _ _) _⟩
      case round =>
        obtain ⟨m1, h1, hr1, hs1, hg1⟩ := hrel
        have HR1 := Lib.hid hr1
        have HS1 := Lib.hid hs1
        have hn := hr1.n_
        have hp := hr1.p_
        have hm := hr1.m_
        have hh := hr1.h_
        have f3 := hr1.blk.frozen 3
        have f4 := hr1.blk.frozen 4
        have hml := hr1.ml
        have hhn := hr1.hn
        have hn1 := hr1.n1
        have hmod : (((h1 : Int) + 1).tmod (n : Int)) = (((h1 + 1) % n : Nat) : Int) := by
          rw [Int.tmod_eq_emod_of_nonneg (by omega)]; simp
        have hlt2 := Nat.mod_lt (h1 + 1) hn1
        have hn0 : ((n : Int) == 0) = false := by rw [beq_eq_false_iff_ne]; omega
        clear hr1 hs1
        cases ht : p.testBit h1
        · cases ht2 : m1.testBit h1
          · have HT := Lib.hid ht
            have HT2 := Lib.hid ht2
            go_wp2_with (first
              | (go_at_call 27; refine (has_at p h1 _ hpl (by omega)).mono ?_; rw [HT.out]; rintro e w' ⟨rfl, rfl⟩)
              | (go_at_call 27; refine (has_at m1 h1 _ hml (by omega)).mono ?_; rw [HT2.out]; rintro e w' ⟨rfl, rfl⟩))
            go_ret2
            have hd : h1 = i ∧ m1 = m2 ∧ (h1 + 1) % n = h2 := by
              have hs := HS1.out
              have ht := HT.out
              have ht2 := HT2.out
              cases F with
              | zero => cases hs
              | succ f =>
                rw [spin, ht, if_neg (by simp), ht2, if_neg (by simp)] at hs
                injection hs with hs
                injection hs with e1 hs
                injection hs with e2 e3
                exact ⟨e1, e2, e3⟩
            have hR := HR1.out
            obtain ⟨rfl, rfl, rfl⟩ := hd
            refine ⟨rfl, grown_then hg1 (grown_set _ b 4 _), ?_⟩
            have hb := hR.blk.set_ 4 (.int .i64 (((h1 + 1) % n : Nat) : Int))
            exact ⟨hb, hR.n1, hR.n64, hlt2, hR.ul, hR.pl, hR.ml⟩
          · have HT := Lib.hid ht
            have HT2 := Lib.hid ht2
            go_wp2_with (first
              | (go_at_call 27; refine (has_at p h1 _ hpl (by omega)).mono ?_; rw [HT.out]; rintro e w' ⟨rfl, rfl⟩)
              | (go_at_call 27; refine (has_at m1 h1 _ hml (by omega)).mono ?_; rw [HT2.out]; rintro e w' ⟨rfl, rfl⟩)
              | (go_at_call 28; refine (with_at m1 h1 false _ hml (by omega)).mono ?_; rintro e w' ⟨rfl, rfl⟩))
            have hsn := spin_next HS1.out (m2 := put m1 h1 false) (.inr ⟨HT.out, HT2.out, rfl⟩)
            have hR := HR1.out
            have hb := (hR.blk.set_ 4 (.int .i64 (((h1 + 1) % n : Nat) : Int))).set_ 3 (.int .u64 (put m1 h1 false : Nat))
            have hR2 : Ring ((wr.setCell ⟨b, 4, none⟩ (.int .i64 (((h1 + 1) % n : Nat) : Int))).setCell ⟨b, 3, none⟩ (.int .u64 (put m1 h1 false : Nat))) b n u p (put m1 h1 false) ((h1 + 1) % n) :=
              ⟨hb, hR.n1, hR.n64, hlt2, hR.ul, hR.pl, put_lt _ _ _ hml (by omega)⟩
            have e3 := hR2.m_
            have e4 := hR2.h_
            have HM : Hid (natOf (((wr.setCell ⟨b, 4, none⟩ (.int .i64 (((h1 + 1) % n : Nat) : Int))).setCell ⟨b, 3, none⟩ (.int .u64 (put m1 h1 false : Nat))).cell? ⟨b, 3, none⟩) = put m1 h1 false ∧ natOf (((wr.setCell ⟨b, 4, none⟩ (.int .i64 (((h1 + 1) % n : Nat) : Int))).setCell ⟨b, 3, none⟩ (.int .u64 (put m1 h1 false : Nat))).cell? ⟨b, 4, none⟩) = (h1 + 1) % n ∧ natOf (wr.cell? ⟨b, 3, none⟩) = m1 ∧ natOf (wr.cell? ⟨b, 4, none⟩) = h1) :=
              ⟨by rw [e3]; rfl, by rw [e4]; rfl, by rw [hm]; rfl, by rw [hh]; rfl⟩
            have HG := Lib.hid (grown_then hg1 (grown_then (grown_set wr b 4 (.int .i64 (((h1 + 1) % n : Nat) : Int))) (grown_set _ b 3 (.int .u64 (put m1 h1 false : Nat)))))
            have HN := Lib.hid hsn
            have HR2 := Lib.hid hR2
            clear e3 e4 hsn hb hR2 hR
            go_roundw
            case rel => exact ⟨_, _, HR2.out, HN.out.1, HG.out⟩
            case measure =>
              show steps n p F (natOf (((wr.setCell ⟨b, 4, none⟩ (.int .i64 (((h1 + 1) % n : Nat) : Int))).setCell ⟨b, 3, none⟩ (.int .u64 (put m1 h1 false : Nat))).cell? ⟨b, 3, none⟩)) (natOf (((wr.setCell ⟨b, 4, none⟩ (.int .i64 (((h1 + 1) % n : Nat) : Int))).setCell ⟨b, 3, none⟩ (.int .u64 (put m1 h1 false : Nat))).cell? ⟨b, 4, none⟩)) < _
              rw [HM.out.1, HM.out.2.1, HM.out.2.2.1, HM.out.2.2.2]
              exact HN.out.2
        · have HT := Lib.hid ht
          go_wp2_with (first
            | (go_at_call 27; refine (has_at p h1 _ hpl (by omega)).mono ?_; rw [HT.out]; rintro e w' ⟨rfl, rfl⟩))
          have hsn := spin_next HS1.out (m2 := m1) (.inl ⟨HT.out, rfl⟩)
          have hR := HR1.out
          have hb := (hR.blk.set_ 4 (.int .i64 (((h1 + 1) % n : Nat) : Int)))
          have hR2 : Ring (wr.setCell ⟨b, 4, none⟩ (.int .i64 (((h1 + 1) % n : Nat) : Int))) b n u p m1 ((h1 + 1) % n) :=
            ⟨hb, hR.n1, hR.n64, hlt2, hR.ul, hR.pl, hml⟩
          have e3 := hR2.m_
          have e4 := hR2.h_
          have HM : Hid (natOf ((wr.setCell ⟨b, 4, none⟩ (.int .i64 (((h1 + 1) % n : Nat) : Int))).cell? ⟨b, 3, none⟩) = m1 ∧ natOf ((wr.setCell ⟨b, 4, none⟩ (.int .i64 (((h1 + 1) % n : Nat) : Int))).cell? ⟨b, 4, none⟩) = (h1 + 1) % n ∧ natOf (wr.cell? ⟨b, 3, none⟩) = m1 ∧ natOf (wr.cell? ⟨b, 4, none⟩) = h1) :=
            ⟨by rw [e3]; rfl, by rw [e4]; rfl, by rw [hm]; rfl, by rw [hh]; rfl⟩
          have HG := Lib.hid (grown_then hg1 (grown_set wr b 4 (.int .i64 (((h1 + 1) % n : Nat) : Int))))
          have HN := Lib.hid hsn
          have HR2 := Lib.hid hR2
          clear e3 e4 hsn hb hR2 hR
          go_roundw
          case rel => exact ⟨_, _, HR2.out, HN.out.1, HG.out⟩
          case measure =>
            show steps n p F (natOf ((wr.setCell ⟨b, 4, none⟩ (.int .i64 (((h1 + 1) % n : Nat) : Int))).cell? ⟨b, 3, none⟩)) (natOf ((wr.setCell ⟨b, 4, none⟩ (.int .i64 (((h1 + 1) % n : Nat) : Int))).cell? ⟨b, 4, none⟩)) < _
            rw [HM.out.1, HM.out.2.1, HM.out.2.2.1, HM.out.2.2.2]
            exact HN.out.2

end Go.Proofs.Ytoiabaienhchjaa
