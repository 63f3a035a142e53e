/- Contracts: Unpin, does, in, Within. -/
import Derived.Test.YtoiabaienhchjaaF
namespace Go.Proofs.Ytoiabaienhchjaa
open Go.RowKit
set_option linter.unusedVariables false

theorem put_same (s k : Nat) (hs : s < 18446744073709551616) (hk : k < 64) : put s k (s.testBit k) = s := by
  apply Nat.eq_of_testBit_eq
  intro j
  rw [put_bit s k _ hs hk]
  split
  · rename_i h; rw [h]
  · rfl

set_option maxHeartbeats 1000000 in
theorem unpin_in (b n u p m h k : Nat) (w : World) (hr : Ring w b n u p m h) (hk : k < n) :
    Calls Try.prog 24 #[.pointer (some ⟨b, 0, none⟩), .int .i64 (k : Int)] w fun e w' => e = .returned (.int .i64 0) ∧ Ring w' b n u (put p k false) m h ∧ w.grownBy w' (some b) := by
  have HR := Lib.hid hr
  have hu := hr.u_
  have hm := hr.m_
  have h64 : k < 64 := Nat.lt_of_lt_of_le hk hr.n64
  have hul := hr.ul
  have hml := hr.ml
  have HT := turn_in b n u p m h k (u.testBit k) false (m.testBit k) (w.drewN 1) (hr.drewN 1) hk
  rw [put_same u k hul h64, put_same m k hml h64] at HT
  have HT := hide HT
  clear hr
  go_enter Try.func24, Try.ntmps24
  go_wp2_with (go_at_call 31; refine (wrong_in b n u p m h k w HR.out hk).mono ?_; rintro e w' ⟨rfl, rfl⟩)
  go_region_held3 (fun w' => w'.cell? ⟨b, 1, none⟩ = some (.int .u64 (u : Int)) ∧ w'.cell? ⟨b, 3, none⟩ = some (.int .u64 (m : Int)))
    (first | exact ⟨hu, hm⟩ | exact ⟨h1.u_, h1.m_⟩)
    (first
      | (go_at_call_of 27 (Value.int .u64 (u : Int)); refine (has_at u k _ hul h64).mono ?_; rintro e w' ⟨rfl, rfl⟩)
      | (go_at_call_of 27 (Value.int .u64 (m : Int)); refine (has_at m k _ hml h64).mono ?_; rintro e w' ⟨rfl, rfl⟩)
      | (go_at_call 29; refine (unhide HT).mono ?_; rintro e w' ⟨rfl, h1, h2⟩))
  go_wp2_with fail
  go_ret
  exact ⟨rfl, h1, ⟨h2.os, h2.tape, h2.output, h2.size, h2.block⟩⟩

/-- what a call that names a place answers, and the sets behind it -/
def doR (n u p m : Nat) (kind i : Int) : Int × Nat × Nat × Nat :=
  if ¬ (0 ≤ i ∧ i < n) then (2, u, p, m)
  else if kind = 0 then (0, put u i.toNat true, put p i.toNat false, put m i.toNat true)
  else if kind = 1 then (0, put u i.toNat false, put p i.toNat false, put m i.toNat false)
  else if kind = 2 then (if u.testBit i.toNat then (0, u, p, put m i.toNat true) else (11, u, p, m))
  else if kind = 3 then (if u.testBit i.toNat then (0, u, put p i.toNat true, m) else (11, u, p, m))
  else (0, u, put p i.toNat false, m)

def DoesPost (w : World) (b n u p m h : Nat) (kind i : Int) (e : Ending) (w' : World) : Prop :=
  e = .returned (.int .i64 (doR n u p m kind i).1) ∧ Ring w' b n (doR n u p m kind i).2.1 (doR n u p m kind i).2.2.1 (doR n u p m kind i).2.2.2 h ∧ w.grownBy w' (some b)

theorem does_any (b n u p m h : Nat) (kind i : Int) (w : World) (hr : Ring w b n u p m h) :
    Calls Try.prog 8 #[.pointer (some ⟨b, 0, none⟩), .int .i64 kind, .int .i64 i] w (DoesPost w b n u p m h kind i) := by
  have HR := Lib.hid hr
  have n64 := hr.n64
  have hul := hr.ul
  have hpl := hr.pl
  have hml := hr.ml
  clear hr
  by_cases hi : 0 ≤ i ∧ i < n
  · obtain ⟨h0, h1⟩ := hi
    obtain ⟨k, rfl⟩ := Int.eq_ofNat_of_zero_le h0
    have hk : k < n := by omega
    have h64 : k < 64 := by omega
    have hnot : ¬ ¬ (0 ≤ (k : Int) ∧ (k : Int) < n) := by omega
    by_cases k0 : kind = 0
    · have e : Hid (doR n u p m kind k = (0, put u k true, put p k false, put m k true)) := show _ = _ by unfold doR; rw [if_neg hnot, if_pos k0]; rfl
      unfold DoesPost
      rw [e.out]
      subst k0
      clear e hnot h0 h1
      go_enter Try.func8, Try.ntmps8
      go_wp2_with (go_at_call 20; refine (use_in b n u p m h k w HR.out hk).mono ?_; rintro e w' ⟨rfl, q1, q2⟩)
      go_ret
      exact ⟨rfl, q1, q2⟩
    · by_cases k1 : kind = 1
      · have e : Hid (doR n u p m kind k = (0, put u k false, put p k false, put m k false)) := show _ = _ by unfold doR; rw [if_neg hnot, if_neg k0, if_pos k1]; rfl
        unfold DoesPost
        rw [e.out]
        subst k1
        clear e hnot h0 h1 k0
        go_enter Try.func8, Try.ntmps8
        go_wp2_with (go_at_call 21; refine (drop_in b n u p m h k w HR.out hk).mono ?_; rintro e w' ⟨rfl, q1, q2⟩)
        go_ret
        exact ⟨rfl, q1, q2⟩
      · by_cases k2 : kind = 2
        · by_cases hb : u.testBit k = true
          · have e : Hid (doR n u p m kind k = (0, u, p, put m k true)) := show _ = _ by unfold doR; rw [if_neg hnot, if_neg k0, if_neg k1, if_pos k2]; exact if_pos hb
            have T := touch_in b n u p m h k w HR.out hk hb
            have eu := put_same u k hul h64
            rw [hb] at eu
            rw [eu, put_same p k hpl h64] at T
            have HT := hide T
            unfold DoesPost
            rw [e.out]
            subst k2
            clear e hnot h0 h1 k0 k1 T eu hb
            go_enter Try.func8, Try.ntmps8
            go_wp2_with (go_at_call 22; refine (unhide HT).mono ?_; rintro e w' ⟨rfl, q1, q2⟩)
            go_ret
            exact ⟨rfl, q1, q2⟩
          · have e : Hid (doR n u p m kind k = (11, u, p, m)) := show _ = _ by unfold doR; rw [if_neg hnot, if_neg k0, if_neg k1, if_pos k2]; exact if_neg hb
            have HT := hide (touch_none b n u p m h k w HR.out hk (eq_false_of_ne_true hb))
            unfold DoesPost
            rw [e.out]
            subst k2
            clear e hnot h0 h1 k0 k1 hb
            go_enter Try.func8, Try.ntmps8
            go_wp2_with (go_at_call 22; refine (unhide HT).mono ?_; rintro e w' ⟨rfl, rfl⟩)
            go_ret
            exact ⟨rfl, HR.out, World.grownBy.refl _ _⟩
        · by_cases k3 : kind = 3
          · by_cases hb : u.testBit k = true
            · have e : Hid (doR n u p m kind k = (0, u, put p k true, m)) := show _ = _ by unfold doR; rw [if_neg hnot, if_neg k0, if_neg k1, if_neg k2, if_pos k3]; exact if_pos hb
              have T := pin_in b n u p m h k w HR.out hk hb
              have eu := put_same u k hul h64
              rw [hb] at eu
              rw [eu, put_same m k hml h64] at T
              have HT := hide T
              unfold DoesPost
              rw [e.out]
              subst k3
              clear e hnot h0 h1 k0 k1 k2 T eu hb
              go_enter Try.func8, Try.ntmps8
              go_wp2_with (go_at_call 23; refine (unhide HT).mono ?_; rintro e w' ⟨rfl, q1, q2⟩)
              go_ret
              exact ⟨rfl, q1, q2⟩
            · have e : Hid (doR n u p m kind k = (11, u, p, m)) := show _ = _ by unfold doR; rw [if_neg hnot, if_neg k0, if_neg k1, if_neg k2, if_pos k3]; exact if_neg hb
              have HT := hide (pin_none b n u p m h k w HR.out hk (eq_false_of_ne_true hb))
              unfold DoesPost
              rw [e.out]
              subst k3
              clear e hnot h0 h1 k0 k1 k2 hb
              go_enter Try.func8, Try.ntmps8
              go_wp2_with (go_at_call 23; refine (unhide HT).mono ?_; rintro e w' ⟨rfl, rfl⟩)
              go_ret
              exact ⟨rfl, HR.out, World.grownBy.refl _ _⟩
          · have e : Hid (doR n u p m kind k = (0, u, put p k false, m)) := show _ = _ by unfold doR; rw [if_neg hnot, if_neg k0, if_neg k1, if_neg k2, if_neg k3]; rfl
            have HT := hide (unpin_in b n u p m h k w HR.out hk)
            have b0 : (kind == 0) = false := beq_eq_false_iff_ne.2 k0
            have b1 : (kind == 1) = false := beq_eq_false_iff_ne.2 k1
            have b2 : (kind == 2) = false := beq_eq_false_iff_ne.2 k2
            have b3 : (kind == 3) = false := beq_eq_false_iff_ne.2 k3
            unfold DoesPost
            rw [e.out]
            clear e hnot h0 h1 k0 k1 k2 k3
            go_enter Try.func8, Try.ntmps8
            go_wp2_with (go_at_call 24; refine (unhide HT).mono ?_; rintro e w' ⟨rfl, q1, q2⟩)
            go_ret
            exact ⟨rfl, q1, q2⟩
  · have e : Hid (doR n u p m kind i = (2, u, p, m)) := show _ = _ by unfold doR; rw [if_pos hi]
    have H0 := hide (use_out b n u p m h i w HR.out hi)
    have H1 := hide (drop_out b n u p m h i w HR.out hi)
    have H2 := hide (touch_out b n u p m h i w HR.out hi)
    have H3 := hide (pin_out b n u p m h i w HR.out hi)
    have H4 := hide (unpin_out b n u p m h i w HR.out hi)
    unfold DoesPost
    rw [e.out]
    clear e hi
    by_cases k0 : kind = 0
    · subst k0
      go_enter Try.func8, Try.ntmps8
      go_wp2_with (go_at_call 20; refine (unhide H0).mono ?_; rintro e w' ⟨rfl, rfl⟩)
      go_ret
      exact ⟨rfl, HR.out, World.grownBy.refl _ _⟩
    · by_cases k1 : kind = 1
      · subst k1
        clear k0
        go_enter Try.func8, Try.ntmps8
        go_wp2_with (go_at_call 21; refine (unhide H1).mono ?_; rintro e w' ⟨rfl, rfl⟩)
        go_ret
        exact ⟨rfl, HR.out, World.grownBy.refl _ _⟩
      · by_cases k2 : kind = 2
        · subst k2
          clear k0 k1
          go_enter Try.func8, Try.ntmps8
          go_wp2_with (go_at_call 22; refine (unhide H2).mono ?_; rintro e w' ⟨rfl, rfl⟩)
          go_ret
          exact ⟨rfl, HR.out, World.grownBy.refl _ _⟩
        · by_cases k3 : kind = 3
          · subst k3
            clear k0 k1 k2
            go_enter Try.func8, Try.ntmps8
            go_wp2_with (go_at_call 23; refine (unhide H3).mono ?_; rintro e w' ⟨rfl, rfl⟩)
            go_ret
            exact ⟨rfl, HR.out, World.grownBy.refl _ _⟩
          · have b0 : (kind == 0) = false := beq_eq_false_iff_ne.2 k0
            have b1 : (kind == 1) = false := beq_eq_false_iff_ne.2 k1
            have b2 : (kind == 2) = false := beq_eq_false_iff_ne.2 k2
            have b3 : (kind == 3) = false := beq_eq_false_iff_ne.2 k3
            clear k0 k1 k2 k3
            go_enter Try.func8, Try.ntmps8
            go_wp2_with (go_at_call 24; refine (unhide H4).mono ?_; rintro e w' ⟨rfl, rfl⟩)
            go_ret
            exact ⟨rfl, HR.out, World.grownBy.refl _ _⟩

end Go.Proofs.Ytoiabaienhchjaa
