/- Contracts of First, of the program and of the reference, and of Holds. Conditions: at most 2000 numbers. -/
import Derived.Test.YtdgamdjfcamnlaaB
namespace Go.Proofs.Ytdgamdjfcamnlaa
open Go.RowKit
set_option linter.unusedVariables false

theorem may_nat {n rate : Int} (h : mayB n rate = true) : ∃ m : Nat, n = (m : Int) ∧ 1 ≤ m ∧ m ≤ 9 ∧ 1 ≤ rate ∧ rate ≤ 16 := by
  unfold mayB at h
  rw [decide_eq_true_iff] at h
  exact ⟨n.toNat, by omega, by omega, by omega, h.2.2.1, h.2.2.2⟩
def fstI (l : List Int) (n rate : Int) : Nat := if mayB n rate = true then firstL l n.toNat rate else 0

set_option maxHeartbeats 400000 in
theorem reff_any (A : Option Addr) (N c : Nat) (l : List Int) (n rate : Int) (w : World) (hr : Reads w w.heap.size 1 A N (vi l)) (hl : l.length = N) (hN : N ≤ 2000) (hNc : N ≤ c) (hcm : c ≤ maxLen) :
    Calls Try.prog 8 #[.slice A N c, .int .i64 n, .int .i64 rate] w fun e w' => e = .returned (.int .i64 (fstI l n rate : Int)) ∧ w = w' := by
  unfold maxLen at hcm
  cases hm : mayB n rate
  · have HF : Hid (fstI l n rate = 0) := show _ = _ by unfold fstI; rw [hm]; rfl
    have HM := Lib.hid hm
    clear hm
    go_enter Try.func8, Try.ntmps8
    go_wp2_with (go_at_call 11; refine (May_any _ _ _).mono ?_; rw [HM.out]; rintro e w' ⟨rfl, rfl⟩)
    go_ret
    exact ⟨ret_int (by rw [HF.out]; rfl), rfl⟩
  · obtain ⟨m, rfl, hm1, hm9, hr1, hr16⟩ := may_nat hm
    have HF : Hid (fstI l m rate = firstL l m rate) := show _ = _ by unfold fstI; rw [hm]; rfl
    have HM := Lib.hid hm
    have HL := Lib.hid hl
    clear hm hl
    go_enter Try.func8, Try.ntmps8
    go_wp2_with (go_at_call 11; refine (May_any _ _ _).mono ?_; rw [HM.out]; rintro e w' ⟨rfl, rfl⟩)
    go_loop [7] (fun i => ∃ k : Nat, k ≤ N ∧ i = .int .i64 k ∧ Hid (∀ j, j < k → rightB (l.take (j + 1)) m rate = true)) (fun i => N - (intOf i).toNat)
    case atStart => exact ⟨0, Nat.zero_le _, rfl, fun j h => by omega⟩
    case round =>
      obtain ⟨k, hk, rfl, HA⟩ := hrel
      by_cases hlt : k < N
      · have hrk := reads_take hr HL.out (k + 1) (by omega)
        have HK : Hid ((l.take (k + 1)).length = k + 1) := show _ = _ by rw [List.length_take]; have := HL.out; omega
        cases hrt : rightB (l.take (k + 1)) m rate
        · have HX : Hid (firstL l m rate = k) := firstL_eq l m rate k (by have := HL.out; omega) HA.out (fun _ => hrt)
          have HR := Lib.hid hrt
          clear hrt
          go_wp2_with (go_at_call 17; refine (right_any _ _ _ m _ rate _ hrk HK.out (by omega) hm9).mono ?_; rw [HR.out]; rintro e w' ⟨rfl, rfl⟩)
          go_ret
          exact ⟨ret_int (by rw [HF.out, HX.out]), rfl⟩
        · have HX : Hid (∀ j, j < k + 1 → rightB (l.take (j + 1)) m rate = true) := fun j hj => by
            rcases Nat.lt_or_ge j k with h | h
            · exact HA.out j h
            · obtain rfl : j = k := by omega
              exact hrt
          have HR := Lib.hid hrt
          clear hrt
          go_wp2_with (go_at_call 17; refine (right_any _ _ _ m _ rate _ hrk HK.out (by omega) hm9).mono ?_; rw [HR.out]; rintro e w' ⟨rfl, rfl⟩)
          go_round
          case rel => exact ⟨k + 1, by omega, by go_num, HX⟩
          case measure => simp [intOf]; omega
      · have HX : Hid (firstL l m rate = N) := firstL_eq l m rate N (by have := HL.out; omega) (fun j hj => HA.out j (by omega)) (fun h => by have := HL.out; omega)
        go_wp2
        go_ret
        exact ⟨ret_int (by rw [HF.out, HX.out]), rfl⟩

def z83 : Array Value := Array.replicate 83 (.int .i64 0)
theorem zero37 (w : World) : (zeroValue 37).run Try.prog w = .ok (.agg z83) w := by kernel_rfl
theorem z83_ne : (z83 = #[]) = False := by
  rw [eq_iff_iff, iff_false]
  intro h
  have := congrArg Array.size h
  simp [z83] at this
theorem z83_size : (z83.size < 2) = False := by simp [z83]
/-- the new gauge -/
def newG (n rate : Int) : Array Value := (z83.setIfInBounds 0 (.int .i64 n)).setIfInBounds 1 (.int .i64 rate)
theorem newG_gau (w : World) (g n : Nat) (rate : Int) (h : Blk w g 37 (newG n rate)) (hn : n ≤ 9) : Gau w g n rate (mOf []) := by
  refine ⟨_, h, by simp [newG, z83], ?_, ?_, fun a ha b hb hab => ?_⟩
  · simp [newG, z83]
  · simp [newG, z83]
  · unfold newG
    rw [Array.getElem?_setIfInBounds, if_neg (by omega), Array.getElem?_setIfInBounds, if_neg (by omega)]
    unfold z83 mOf
    rw [Array.getElem?_replicate, if_pos (by omega)]
    rfl

theorem below_of_only {w w' : World} {g : Nat} (h : w.grownBy w' (some g)) (hg : g ≤ w.heap.size) : Below g w w' :=
  ⟨h.os, h.tape, h.output, h.size, fun k hk => h.block k (by omega) (fun e => by injection e; omega)⟩
theorem right_nil (m : Nat) (rate : Int) (h : 1 ≤ rate) : rightB [] m rate = true := by
  unfold rightB
  rw [decide_eq_true_iff]
  exact rightP_nil _ _ (by omega)
/-- what IndexFunc answers -/
def idx (l : List Int) (m : Nat) (rate : Int) : Int := if firstL l m rate < l.length then (firstL l m rate : Int) else -1

set_option maxHeartbeats 400000 in
theorem index_any (A : Option Addr) (N c g m : Nat) (l : List Int) (rate : Int) (w : World) (hG : Gau w g m rate (mOf [])) (hr : Reads w g 1 A N (vi l)) (hl : l.length = N) (hN : N ≤ 2000) (hm9 : m ≤ 9) (hr1 : 1 ≤ rate) (hr16 : rate ≤ 16) :
    Calls Try.prog 19 #[.slice A N c, .func (Fn.func 20) #[.pointer (some ⟨g, 0, none⟩)] #[]] w fun e w' => e = .returned (.int .i64 (idx l m rate)) ∧ Below g w w' := by
  have HL := Lib.hid hl
  clear hl
  go_enter Try.func19, Try.ntmps19
  go_wp2
  go_loopw [5, 8] (fun _ i wr => ∃ k : Nat, k ≤ N ∧ i = .int .i64 k ∧ Hid (∀ j, j < k → rightB (l.take (j + 1)) m rate = true) ∧ Gau wr g m rate (mOf (l.take k)) ∧ Below g w wr) (fun _ i _ => N - (intOf i).toNat)
  case atStart => exact ⟨0, Nat.zero_le _, rfl, fun j h => by omega, hG, Below.refl _ _⟩
  case round =>
    obtain ⟨k, hk, rfl, HA, hGk, hbel⟩ := hrel
    by_cases hlt : k < N
    · obtain ⟨ad, rfl, hadb, hc⟩ := reads_at (hr.below hbel) HL.out hlt
      have HT : Hid (l.take (k + 1) = l.take k ++ [l[k]'(by have := HL.out; omega)]) := List.take_succ_eq_append_getElem (by have := HL.out; omega)
      have HP : Hid (rightB (l.take k) m rate = true) := show _ = _ by
        rcases Nat.eq_zero_or_pos k with h0 | h0
        · subst h0; exact right_nil m rate hr1
        · have := HA.out (k - 1) (by omega)
          rwa [show k - 1 + 1 = k from by omega] at this
      generalize l[k]'(by have := HL.out; omega) = z at hc HT
      have HCan : Hid (canB (mOf (l.take k)) m rate z = rightB (l.take (k + 1)) m rate) := show _ = _ by
        rw [can_iff _ _ _ _ (by omega) HP.out, HT.out]
      cases hrt : rightB (l.take (k + 1)) m rate
      · have HX : Hid (idx l m rate = (k : Int)) := show _ = _ by
          unfold idx
          rw [firstL_eq l m rate k (by have := HL.out; omega) HA.out (fun _ => hrt), if_pos (by have := HL.out; omega)]
        have HR : Hid (canB (mOf (l.take k)) m rate z = false) := HCan.out.trans hrt
        clear hrt
        go_wp2_with (go_at_call 20; refine (refuses_any g m rate _ z _ hGk hm9 hr16).mono ?_; rw [HR.out]; rintro e w1 ⟨rfl, hG1, ho1⟩)
        go_ret
        exact ⟨ret_int (by rw [HX.out]), hbel.trans (below_of_only ho1 (Nat.le_of_lt hGk.lt))⟩
      · have HX : Hid (∀ j, j < k + 1 → rightB (l.take (j + 1)) m rate = true) := fun j hj => by
          rcases Nat.lt_or_ge j k with h | h
          · exact HA.out j h
          · obtain rfl : j = k := by omega
            exact hrt
        have HR : Hid (canB (mOf (l.take k)) m rate z = true) := HCan.out.trans hrt
        clear hrt
        go_wp2_with (go_at_call 20; refine (refuses_any g m rate _ z _ hGk hm9 hr16).mono ?_; rw [HR.out]; rintro e w1 ⟨rfl, hG1, ho1⟩)
        go_roundw
        case rel =>
          refine ⟨k + 1, by omega, by go_num, HX, ?_, hbel.trans (below_of_only ho1 (Nat.le_of_lt hGk.lt))⟩
          have hG2 : Gau w1 g m rate (tickF (mOf (l.take k)) m z) := by simpa using hG1
          exact hG2.congr (fun a ha b hb _ => by rw [HT.out]; exact tick_eq _ _ _ _ _ ha hb)
        case measure => simp [intOf]; omega
    · have HX : Hid (idx l m rate = -1) := show _ = _ by
        unfold idx
        rw [firstL_eq l m rate N (by have := HL.out; omega) (fun j hj => HA.out j (by omega)) (fun h => by have := HL.out; omega), if_neg (by have := HL.out; omega)]
      go_wp2
      go_ret
      exact ⟨ret_int (by rw [HX.out]), hbel⟩

theorem idx_pos {l : List Int} {m : Nat} {rate : Int} (h : 0 ≤ idx l m rate) : idx l m rate = (firstL l m rate : Int) := by
  unfold idx at h ⊢
  split
  · rfl
  · rename_i h1
    rw [if_neg h1] at h
    omega
theorem idx_neg {l : List Int} {m : Nat} {rate : Int} (h : idx l m rate < 0) : firstL l m rate = l.length := by
  have h2 := firstL_le l m rate
  unfold idx at h
  split at h <;> omega

theorem first_any (A : Option Addr) (N c : Nat) (l : List Int) (n rate : Int) (w : World) (hr : Reads w w.heap.size 1 A N (vi l)) (hl : l.length = N) (hN : N ≤ 2000) :
    Calls Try.prog 9 #[.slice A N c, .int .i64 n, .int .i64 rate] w fun e w' => e = .returned (.int .i64 (fstI l n rate : Int)) ∧ Below w.heap.size w w' := by
  cases hm : mayB n rate
  · have HF : Hid (fstI l n rate = 0) := show _ = _ by unfold fstI; rw [hm]; rfl
    have HM := Lib.hid hm
    clear hm
    go_enter Try.func9, Try.ntmps9
    go_wp2_with (go_at_call 18; refine (may_any _ _ _).mono ?_; rw [HM.out]; rintro e w' ⟨rfl, rfl⟩)
    go_ret
    exact ⟨ret_int (by rw [HF.out]; rfl), Below.refl _ _⟩
  · obtain ⟨m, rfl, hm1, hm9, hr1, hr16⟩ := may_nat hm
    have HF : Hid (fstI l m rate = firstL l m rate) := show _ = _ by unfold fstI; rw [hm]; rfl
    have HM := Lib.hid hm
    have HL := Lib.hid hl
    clear hm hl
    have q1 := zero37
    have q2 := z83_ne
    have q3 := z83_size
    go_enter Try.func9, Try.ntmps9
    go_wp2_with (first
      | (go_at_call 18; refine (may_any _ _ _).mono ?_; rw [HM.out]; rintro e w' ⟨rfl, rfl⟩)
      | (go_at_call 19; refine (index_any A N c w.heap.size m l rate _ (newG_gau _ _ _ _ (Blk.new w 37 (newG m rate)) hm9) (hr.alloc (Nat.le_refl _) _) HL.out hN hm9 hr1 hr16).mono ?_; rintro e w2 ⟨rfl, hb2⟩))
    · have h0 : 0 ≤ idx l m rate := by assumption
      go_ret
      exact ⟨ret_int (by rw [HF.out]; exact idx_pos h0), ((Below.refl _ _).alloc (Nat.le_refl _) _).trans hb2⟩
    · have h0 : idx l m rate < 0 := by assumption
      go_ret
      exact ⟨ret_int (by rw [HF.out, idx_neg h0, HL.out]), ((Below.refl _ _).alloc (Nat.le_refl _) _).trans hb2⟩

def holdsB (l : List Int) (n rate : Int) : Bool := mayB n rate && decide (firstL l n.toNat rate = l.length)
theorem holds_any (A : Option Addr) (N c : Nat) (l : List Int) (n rate : Int) (w : World) (hr : Reads w w.heap.size 1 A N (vi l)) (hl : l.length = N) (hN : N ≤ 2000) :
    Calls Try.prog 10 #[.slice A N c, .int .i64 n, .int .i64 rate] w fun e w' => e = .returned (.bool (holdsB l n rate)) ∧ Below w.heap.size w w' := by
  cases hm : mayB n rate
  · have HF : Hid (holdsB l n rate = false) := show _ = _ by unfold holdsB; rw [hm]; rfl
    have HM := Lib.hid hm
    clear hm
    go_enter Try.func10, Try.ntmps10
    go_wp2_with (go_at_call 18; refine (may_any _ _ _).mono ?_; rw [HM.out]; rintro e w' ⟨rfl, rfl⟩)
    go_ret
    exact ⟨ret_bool HF.out.symm, Below.refl _ _⟩
  · have HF : Hid (holdsB l n rate = ((fstI l n rate : Int) == (N : Int))) := show _ = _ by
      unfold holdsB fstI
      rw [hm, if_pos rfl, Bool.true_and, hl]
      by_cases e : firstL l n.toNat rate = N
      · rw [e]; simp
      · rw [decide_eq_false e, eq_comm, beq_eq_false_iff_ne]
        omega
    have HM := Lib.hid hm
    have HL := Lib.hid hl
    clear hm hl
    go_enter Try.func10, Try.ntmps10
    go_wp2_with (first
      | (go_at_call 18; refine (may_any _ _ _).mono ?_; rw [HM.out]; rintro e w' ⟨rfl, rfl⟩)
      | (go_at_call 9; refine (first_any A N c l n rate _ hr HL.out hN).mono ?_; rintro e w2 ⟨rfl, hb2⟩))
    go_ret
    exact ⟨ret_bool HF.out.symm, hb2⟩

end Go.Proofs.Ytdgamdjfcamnlaa
