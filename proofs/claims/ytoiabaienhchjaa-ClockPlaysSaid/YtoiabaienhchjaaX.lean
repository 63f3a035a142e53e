/- The document's Next: it answers what the clock's Next answers. -/
import Derived.Test.YtoiabaienhchjaaV
namespace Go.Proofs.Ytoiabaienhchjaa
open Go.RowKit
set_option linter.unusedVariables false

/-- are all places below k in the set? -/
def allB (p k : Nat) : Bool := (List.range k).all fun j => p.testBit j
theorem allB_succ (p k : Nat) : allB p (k + 1) = (allB p k && p.testBit k) := by simp [allB, List.range_succ]
theorem allB_true {p : Nat} : ∀ {k : Nat}, (∀ j, j < k → p.testBit j = true) → allB p k = true := fun h => by simpa [allB] using h
theorem allB_false {p k j : Nat} (hj : j < k) (h : p.testBit j = false) : allB p k = false := by
  cases hb : allB p k
  · rfl
  · simp [allB] at hb
    rw [hb j hj] at h; cases h

section
variable {g q n u p m h : Nat} {w : World}

set_option maxHeartbeats 1000000 in
theorem rnext_free {kf : Nat} (r : RRing w g q n u p m h) (hk : kf < n) (hall : ∀ j, j < kf → u.testBit j = true) (hf : u.testBit kf = false) :
    Calls Try.prog 16 #[.pointer (some ⟨g, 0, none⟩)] w fun e w' => e = .returned (.tuple #[.int .i64 (kf : Int), .int .i64 0]) ∧ w = w' := by
  have HR := Lib.hid r
  have c0 := r.l_
  have h64 := r.n64
  have HA := Lib.hid hall
  have HF := Lib.hid hf
  clear r hall hf
  go_enter Try.func16, Try.ntmps16
  go_wp2
  go_loopw [4, 5] (fun al i wr => ∃ (k : Nat) (b : Bool), k ≤ kf ∧ i = .int .i64 k ∧ al = .bool b ∧ w = wr) (fun _ i _ => n - (intOf i).toNat)
  case atStart => exact ⟨0, true, Nat.zero_le _, rfl, rfl, by trivial⟩
  case round =>
    obtain ⟨k, b, hk2, rfl, rfl, rfl⟩ := hrel
    have hkn : k < n := by omega
    have cu := HR.out.u_ hkn
    have cp := HR.out.p_ hkn
    by_cases hlt : k < kf
    · rw [HA.out k hlt] at cu
      generalize p.testBit k = y at cp
      cases b
      · go_wp2
        go_roundw
        case rel => exact ⟨k + 1, false, by omega, by go_num, rfl, by trivial⟩
        case measure => simp [intOf]; omega
      · go_wp2
        go_roundw
        case rel => exact ⟨k + 1, y, by omega, by go_num, rfl, by trivial⟩
        case measure => simp [intOf]; omega
    · obtain rfl : k = kf := by omega
      rw [HF.out] at cu
      go_wp2
      go_ret2
      exact ⟨rfl, rfl⟩

set_option maxHeartbeats 1000000 in
theorem rnext_full (r : RRing w g q n u p m h) (hall : ∀ j, j < n → u.testBit j = true) (hp : ∀ j, j < n → p.testBit j = true) :
    Calls Try.prog 16 #[.pointer (some ⟨g, 0, none⟩)] w fun e w' => e = .returned (.tuple #[.int .i64 (-1), .int .i64 8]) ∧ w = w' := by
  have HR := Lib.hid r
  have c0 := r.l_
  have h64 := r.n64
  have HA := Lib.hid hall
  have HP := Lib.hid hp
  clear r hall hp
  go_enter Try.func16, Try.ntmps16
  go_wp2
  go_loopw [4, 5] (fun al i wr => ∃ k : Nat, k ≤ n ∧ i = .int .i64 k ∧ al = .bool true ∧ w = wr) (fun _ i _ => n - (intOf i).toNat)
  case atStart => exact ⟨0, Nat.zero_le _, rfl, rfl, by trivial⟩
  case round =>
    obtain ⟨k, hk2, rfl, rfl, rfl⟩ := hrel
    by_cases hlt : k < n
    · have cu := HR.out.u_ hlt
      have cp := HR.out.p_ hlt
      rw [HA.out k hlt] at cu
      rw [HP.out k hlt] at cp
      go_wp2
      go_roundw
      case rel => exact ⟨k + 1, by omega, by go_num, rfl, by trivial⟩
      case measure => simp [intOf]; omega
    · go_wp2
      go_ret2
      exact ⟨rfl, rfl⟩

theorem RRing.hand_ {h' : Nat} (r : RRing w g q n u p m h) (k : Nat) (z : Int) (hz : z = (h' : Int)) (hh : h' < n) : RRing ((w.setCell ⟨g, 1, none⟩ (.int .i64 z)).drewN k) g q n u p m h' := by
  subst hz
  exact ⟨(r.hd.set_ 1 _).drewN k, (r.pl.far (p := ⟨g, 1, none⟩) (Ne.symm r.ne) _).drewN k, r.n64, hh, r.ul, r.pl', r.ml⟩
theorem RRing.hand0 (r : RRing w g q n u p m h) (z : Int) (k : Nat) (hn : 0 < n) : RRing (((w.setCell ⟨g, 1, none⟩ (.int .i64 z)).setCell ⟨g, 1, none⟩ (.int .i64 0)).drewN k) g q n u p m 0 :=
  ⟨(((r.hd.set_ 1 (.int .i64 z)).set_ 1 (.int .i64 0)).drewN k), ((r.pl.far (p := ⟨g, 1, none⟩) (Ne.symm r.ne) _).far (p := ⟨g, 1, none⟩) (Ne.symm r.ne) _).drewN k, r.n64, hn, r.ul, r.pl', r.ml⟩
theorem RRing.mark_ {k : Nat} (r : RRing w g q n u p m h) (hk : k < n) : RRing (w.setCell ⟨q, k * 3 + 2, none⟩ (.bool false)) g q n u p (put m k false) h := by
  have h64 := r.n64
  have hp := r.pl.set_ (k * 3 + 2) (.bool false)
  rw [plc_mark n u p m k false r.ml hk (by omega)] at hp
  exact ⟨r.hd.far (p := ⟨q, k * 3 + 2, none⟩) r.ne _, hp, r.n64, r.hn, r.ul, r.pl', put_lt _ _ _ r.ml (by omega)⟩
theorem RRing.handm {h' k : Nat} (r : RRing w g q n u p m h) (j : Nat) (z : Int) (hz : z = (h' : Int)) (hh : h' < n) (hk : k < n) : RRing (((w.setCell ⟨g, 1, none⟩ (.int .i64 z)).setCell ⟨q, k * 3 + 2, none⟩ (.bool false)).drewN j) g q n u p (put m k false) h' := by
  have h := (r.hand_ 0 z hz hh)
  exact (RRing.mark_ (w := w.setCell ⟨g, 1, none⟩ (.int .i64 z)) h hk).drewN j
theorem RRing.hand0m {k : Nat} (r : RRing w g q n u p m h) (z : Int) (j : Nat) (hn : 0 < n) (hk : k < n) : RRing ((((w.setCell ⟨g, 1, none⟩ (.int .i64 z)).setCell ⟨g, 1, none⟩ (.int .i64 0)).setCell ⟨q, k * 3 + 2, none⟩ (.bool false)).drewN j) g q n u p (put m k false) 0 := by
  have h := (r.hand0 z 0 hn)
  exact (RRing.mark_ (w := (w.setCell ⟨g, 1, none⟩ (.int .i64 z)).setCell ⟨g, 1, none⟩ (.int .i64 0)) h hk).drewN j

set_option maxHeartbeats 4000000 in
theorem rnext_turn {B i m2 h2 j0 : Nat} (r : RRing w g q n u p m h) (hBg : B ≤ g) (hBq : B ≤ q) (hall : ∀ j, j < n → u.testBit j = true) (hj0 : j0 < n) (hpj : p.testBit j0 = false) (hs : spin n p (2 * n) m h = some (i, m2, h2)) :
    Calls Try.prog 16 #[.pointer (some ⟨g, 0, none⟩)] w fun e w' => e = .returned (.tuple #[.int .i64 (i : Int), .int .i64 0]) ∧ RRing w' g q n u p m2 h2 ∧ Below B w w' := by
  have HR := Lib.hid r
  have c0 := r.l_
  have h64 := r.n64
  have HA := Lib.hid hall
  have HAF := Lib.hid (allB_false hj0 hpj)
  have HS := Lib.hid hs
  have HPJ := Lib.hid hpj
  clear r hall hs hpj
  go_enter Try.func16, Try.ntmps16
  go_wp2
  go_loopw [4, 5] (fun al i wr => ∃ (k : Nat) (b : Bool), k ≤ n ∧ i = .int .i64 k ∧ al = .bool b ∧ Hid (b = allB p k) ∧ w = wr) (fun _ i _ => n - (intOf i).toNat)
  case atStart => exact ⟨0, true, Nat.zero_le _, rfl, rfl, (by simp [allB, Hid]), by trivial⟩
  case round =>
    obtain ⟨k, b, hk2, rfl, rfl, HB, rfl⟩ := hrel
    by_cases hlt : k < n
    · have cu := HR.out.u_ hlt
      have cp := HR.out.p_ hlt
      rw [HA.out k hlt] at cu
      obtain ⟨y, hy⟩ : ∃ y, y = p.testBit k := ⟨_, rfl⟩
      rw [← hy] at cp
      have HY := Lib.hid hy
      clear hy
      cases b
      · go_wp2
        go_roundw
        case rel => exact ⟨k + 1, false, by omega, by go_num, rfl, (show _ = _ by rw [allB_succ, ← HB.out]; rfl), by trivial⟩
        case measure => simp [intOf]; omega
      · go_wp2
        go_roundw
        case rel => exact ⟨k + 1, y, by omega, by go_num, rfl, (show _ = _ by rw [allB_succ, ← HB.out, ← HY.out]; simp), by trivial⟩
        case measure => simp [intOf]; omega
    · obtain rfl : b = false := by rw [HB.out, show k = n by omega]; exact HAF.out
      go_wp2
      clear c0 HB
      go_loopw [6] (fun ks wr => ∃ t m1 h1 : Nat, t ≤ 2 * n ∧ ks = .int .i64 t ∧ RRing wr g q n u p m1 h1 ∧ spin n p (2 * n - t) m1 h1 = some (i, m2, h2) ∧ Below B w wr) (fun ks _ => 2 * n - (intOf ks).toNat)
      case atStart => exact ⟨0, m, h, Nat.zero_le _, rfl, HR.out, HS.out, Below.refl _ _⟩
      case round =>
        obtain ⟨t, m1, h1, ht, rfl, hr1, hs1, hb1⟩ := hrel
        have htt : t < 2 * n := by
          rcases Nat.lt_or_ge t (2 * n) with h | h
          · exact h
          · rw [show 2 * n - t = 0 by omega] at hs1; cases hs1
        have HR1 := Lib.hid hr1
        have HS1 := Lib.hid hs1
        have hhn := hr1.hn
        have c0 := hr1.l_
        have ch := hr1.h_
        have cp := hr1.p_ hhn
        have cm := hr1.m_ hhn
        have f1 := hr1.hd.frozen 1
        have fm := hr1.pl.frozen (h1 * 3 + 2)
        have hgq := hr1.ne
        clear hr1 hs1
        have hn1 : 0 < n := by omega
        have efu : 2 * n - t = (2 * n - (t + 1)) + 1 := by omega
        have HEF := Lib.hid efu
        clear efu
        by_cases hwrap : h1 + 1 = n
        · have HMOD : Hid ((h1 + 1) % n = 0) := show _ = _ by rw [hwrap, Nat.mod_self]
          have g1 : ((h1 : Int) + 1 == (n : Int)) = true := by rw [beq_iff_eq]; omega
          have HW := Lib.hid hwrap
          clear hwrap
          cases hpb : p.testBit h1
          · rw [hpb] at cp
            have HP := Lib.hid hpb
            cases hmb : m1.testBit h1
            · rw [hmb] at cm
              have HM := Lib.hid hmb
              clear hpb hmb
              go_wp2
              go_quiet (fail)
              go_wp2
              have hs := HS1.out
              rw [HEF.out, spin, HP.out, if_neg (by simp), HM.out, if_neg (by simp), HMOD.out] at hs
              injection hs with hs
              injection hs with hs1 hs
              injection hs with hs2 hs3
              subst hs1 hs2 hs3
              go_ret2
              exact ⟨rfl, HR1.out.hand0 ((h1 : Int) + 1) nq hn1, below_drewN ((hb1.setCell (p := ⟨g, 1, none⟩) hBg _).setCell (p := ⟨g, 1, none⟩) hBg _) nq⟩
            · rw [hmb] at cm
              have HM := Lib.hid hmb
              clear hpb hmb
              go_wp2
              go_quiet (fail)
              go_wp2
              have hs := HS1.out
              rw [HEF.out, spin, HP.out, if_neg (by simp), HM.out, if_pos rfl, HMOD.out] at hs
              have HS2 := Lib.hid hs
              clear hs
              go_roundw
              case rel => exact ⟨t + 1, _, _, by omega, by go_num, HR1.out.hand0m ((h1 : Int) + 1) nq hn1 hhn, HS2.out, below_drewN (((hb1.setCell (p := ⟨g, 1, none⟩) hBg _).setCell (p := ⟨g, 1, none⟩) hBg _).setCell (p := ⟨q, h1 * 3 + 2, none⟩) hBq _) nq⟩
              case measure => simp [intOf]; omega
          · rw [hpb] at cp
            have HP := Lib.hid hpb
            clear hpb
            go_wp2
            go_quiet (fail)
            go_wp2
            have hs := HS1.out
            rw [HEF.out, spin, HP.out, if_pos rfl, HMOD.out] at hs
            have HS2 := Lib.hid hs
            clear hs
            go_roundw
            case rel => exact ⟨t + 1, _, _, by omega, by go_num, HR1.out.hand0 ((h1 : Int) + 1) nq hn1, HS2.out, below_drewN ((hb1.setCell (p := ⟨g, 1, none⟩) hBg _).setCell (p := ⟨g, 1, none⟩) hBg _) nq⟩
            case measure => simp [intOf]; omega
        · have HMOD : Hid ((h1 + 1) % n = h1 + 1) := show _ = _ by exact Nat.mod_eq_of_lt (by omega)
          have g1 : ((h1 : Int) + 1 == (n : Int)) = false := by rw [beq_eq_false_iff_ne]; omega
          have HW := Lib.hid hwrap
          clear hwrap
          cases hpb : p.testBit h1
          · rw [hpb] at cp
            have HP := Lib.hid hpb
            cases hmb : m1.testBit h1
            · rw [hmb] at cm
              have HM := Lib.hid hmb
              clear hpb hmb
              go_wp2
              go_quiet (fail)
              go_wp2
              have hs := HS1.out
              rw [HEF.out, spin, HP.out, if_neg (by simp), HM.out, if_neg (by simp), HMOD.out] at hs
              injection hs with hs
              injection hs with hs1 hs
              injection hs with hs2 hs3
              subst hs1 hs2 hs3
              go_ret2
              exact ⟨rfl, HR1.out.hand_ nq ((h1 : Int) + 1) (by omega) (by have := HW.out; omega), below_drewN (hb1.setCell (p := ⟨g, 1, none⟩) hBg _) nq⟩
            · rw [hmb] at cm
              have HM := Lib.hid hmb
              clear hpb hmb
              go_wp2
              go_quiet (fail)
              go_wp2
              have hs := HS1.out
              rw [HEF.out, spin, HP.out, if_neg (by simp), HM.out, if_pos rfl, HMOD.out] at hs
              have HS2 := Lib.hid hs
              clear hs
              go_roundw
              case rel => exact ⟨t + 1, _, _, by omega, by go_num, HR1.out.handm nq ((h1 : Int) + 1) (by omega) (by have := HW.out; omega) hhn, HS2.out, below_drewN ((hb1.setCell (p := ⟨g, 1, none⟩) hBg _).setCell (p := ⟨q, h1 * 3 + 2, none⟩) hBq _) nq⟩
              case measure => simp [intOf]; omega
          · rw [hpb] at cp
            have HP := Lib.hid hpb
            clear hpb
            go_wp2
            go_quiet (fail)
            go_wp2
            have hs := HS1.out
            rw [HEF.out, spin, HP.out, if_pos rfl, HMOD.out] at hs
            have HS2 := Lib.hid hs
            clear hs
            go_roundw
            case rel => exact ⟨t + 1, _, _, by omega, by go_num, HR1.out.hand_ nq ((h1 : Int) + 1) (by omega) (by have := HW.out; omega), HS2.out, below_drewN (hb1.setCell (p := ⟨g, 1, none⟩) hBg _) nq⟩
            case measure => simp [intOf]; omega
end

end Go.Proofs.Ytoiabaienhchjaa
