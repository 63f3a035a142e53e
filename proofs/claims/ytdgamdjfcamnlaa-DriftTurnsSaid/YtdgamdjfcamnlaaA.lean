/- Contracts of drift's gauge: may, in, can, tick, refuses. Conditions: 1 to 9 nodes. -/
import Derived.Test.YtdgamdjfcamnlaaPlain
import Derived.Test.YtdgamdjfcamnlaaWords
import Derived.WalkKit
import Derived.WalkSpells
import Derived.Outline
import Derived.Below
import Derived.BigQuiet
import Derived.BigRegion
import Derived.IntWalk
namespace Go.Proofs.Ytdgamdjfcamnlaa
open Go.RowKit
set_option linter.unusedVariables false

theorem may_any (n rate : Int) (w : World) :
    Calls Try.prog 18 #[.int .i64 n, .int .i64 rate] w fun e w' => e = .returned (.bool (mayB n rate)) ∧ w = w' := by
  by_cases h1 : 1 ≤ n
  · by_cases h2 : n ≤ 9
    · by_cases h3 : 1 ≤ rate
      · by_cases h4 : rate ≤ 16
        · have h5 : decide (rate < 17) = true := by rw [decide_eq_true_iff]; omega
          rw [show mayB n rate = true from by unfold mayB; rw [decide_eq_true_iff]; omega]
          go_enter Try.func18, Try.ntmps18
          go_wp2
          go_ret
          exact ⟨rfl, rfl⟩
        · have h5 : decide (rate < 17) = false := by rw [decide_eq_false_iff_not]; omega
          rw [show mayB n rate = false from by unfold mayB; rw [decide_eq_false_iff_not]; omega]
          go_enter Try.func18, Try.ntmps18
          go_wp2
          go_ret
          exact ⟨rfl, rfl⟩
      · rw [show mayB n rate = false from by unfold mayB; rw [decide_eq_false_iff_not]; omega]
        go_enter Try.func18, Try.ntmps18
        go_wp2
        go_ret
        exact ⟨rfl, rfl⟩
    · rw [show mayB n rate = false from by unfold mayB; rw [decide_eq_false_iff_not]; omega]
      go_enter Try.func18, Try.ntmps18
      go_wp2
      go_ret
      exact ⟨rfl, rfl⟩
  · rw [show mayB n rate = false from by unfold mayB; rw [decide_eq_false_iff_not]; omega]
    go_enter Try.func18, Try.ntmps18
    go_wp2
    go_ret
    exact ⟨rfl, rfl⟩

theorem May_any (n rate : Int) (w : World) :
    Calls Try.prog 11 #[.int .i64 n, .int .i64 rate] w fun e w' => e = .returned (.bool (mayB n rate)) ∧ w = w' := by
  by_cases h1 : 1 ≤ n
  · by_cases h2 : n ≤ 9
    · by_cases h3 : 1 ≤ rate
      · by_cases h4 : rate ≤ 16
        · have h5 : decide (rate < 17) = true := by rw [decide_eq_true_iff]; omega
          rw [show mayB n rate = true from by unfold mayB; rw [decide_eq_true_iff]; omega]
          go_enter Try.func11, Try.ntmps11
          go_wp2
          go_ret
          exact ⟨rfl, rfl⟩
        · have h5 : decide (rate < 17) = false := by rw [decide_eq_false_iff_not]; omega
          rw [show mayB n rate = false from by unfold mayB; rw [decide_eq_false_iff_not]; omega]
          go_enter Try.func11, Try.ntmps11
          go_wp2
          go_ret
          exact ⟨rfl, rfl⟩
      · rw [show mayB n rate = false from by unfold mayB; rw [decide_eq_false_iff_not]; omega]
        go_enter Try.func11, Try.ntmps11
        go_wp2
        go_ret
        exact ⟨rfl, rfl⟩
    · rw [show mayB n rate = false from by unfold mayB; rw [decide_eq_false_iff_not]; omega]
      go_enter Try.func11, Try.ntmps11
      go_wp2
      go_ret
      exact ⟨rfl, rfl⟩
  · rw [show mayB n rate = false from by unfold mayB; rw [decide_eq_false_iff_not]; omega]
    go_enter Try.func11, Try.ntmps11
    go_wp2
    go_ret
    exact ⟨rfl, rfl⟩

/-- the gauge in block g: n clocks, the rate, and what each has seen of each other -/
def Gau (w : World) (g n : Nat) (rate : Int) (m : Nat → Nat → Nat) : Prop :=
  ∃ cs : Array Value, Blk w g 37 cs ∧ cs.size = 83 ∧ cs[0]? = some (.int .i64 (n : Int)) ∧ cs[1]? = some (.int .i64 rate) ∧
    ∀ a, a < n → ∀ b, b < n → a ≠ b → cs[2 + a * 9 + b]? = some (.int .i64 (m a b : Int))

theorem in_any (g n : Nat) (t : Int) (w : World) (hc : w.cell? ⟨g, 0, none⟩ = some (.int .i64 (n : Int))) :
    Calls Try.prog 24 #[.pointer (some ⟨g, 0, none⟩), .int .i64 t] w fun e w' => e = .returned (.bool (decide (0 ≤ t ∧ t < n))) ∧ w = w' := by
  by_cases h1 : 0 ≤ t
  · by_cases h2 : t < n
    all_goals
      simp only [h1, h2, and_true, and_false, decide_true, decide_false]
      go_enter Try.func24, Try.ntmps24
      go_wp2
      go_ret
      exact ⟨rfl, rfl⟩
  · simp only [h1, false_and, decide_false]
    go_enter Try.func24, Try.ntmps24
    go_wp2
    go_ret
    exact ⟨rfl, rfl⟩

set_option maxHeartbeats 400000 in
theorem can_in (g n : Nat) (rate : Int) (m : Nat → Nat → Nat) (t : Nat) (w : World) (hG : Gau w g n rate m) (hn : n ≤ 9) (ht : t < n) :
    Calls Try.prog 22 #[.pointer (some ⟨g, 0, none⟩), .int .i64 (t : Int)] w fun e w' => e = .returned (.bool (canB m n rate t)) ∧ ∃ q, w' = w.drewN q := by
  obtain ⟨cs, hb, hsz, hc0, hc1, hcs⟩ := hG
  have h0 : w.cell? ⟨g, 0, none⟩ = some (.int .i64 (n : Int)) := (hb.cell 0).trans hc0
  have h1 : w.cell? ⟨g, 1, none⟩ = some (.int .i64 rate) := (hb.cell 1).trans hc1
  have ht0 : (0 : Int) ≤ (t : Int) := by omega
  have ht9 : (t : Int) < 9 := by omega
  have hd : decide (0 ≤ (t : Int) ∧ (t : Int) < (n : Int)) = true := by rw [decide_eq_true_iff]; omega
  go_enter Try.func22, Try.ntmps22
  go_wp2_with (go_at_call 24; refine (in_any g n t _ h0).mono ?_; rw [hd]; rintro e w' ⟨rfl, rfl⟩)
  go_loopw [5, 14] (fun _ i wr => ∃ k : Nat, k ≤ n ∧ i = .int .i64 k ∧ (∀ b, b < k → b ≠ t → (m b t : Int) < rate) ∧ ∃ q, wr = w.drewN q) (fun _ i _ => n - (intOf i).toNat)
  case atStart => exact ⟨0, Nat.zero_le _, rfl, fun b hb => by omega, 0, rfl⟩
  case round =>
    obtain ⟨k, hk, rfl, hall, q, rfl⟩ := hrel
    by_cases hlt : k < n
    · have hk0 : (0 : Int) ≤ (k : Int) := by omega
      have hk9 : (k : Int) < 9 := by omega
      by_cases hkt : k = t
      · have hne : ((k : Int) != (t : Int)) = false := by simp; omega
        have HA := Lib.hid hall
        clear hall
        go_wp2
        go_quiet (fail)
        go_wp2
        go_roundw
        case rel => exact ⟨k + 1, by omega, by go_num, fun b hb hbt => HA.out b (by omega) hbt, _, rfl⟩
        case measure => simp [intOf]; omega
      · have hne : ((k : Int) != (t : Int)) = true := by simp; omega
        have hc2 : w.cell? ⟨g, 2 + k * 9 + t, none⟩ = some (.int .i64 (m k t : Int)) := (hb.cell _).trans (hcs k hlt t ht hkt)
        have HA := Lib.hid hall
        clear hall
        by_cases hge : rate ≤ (m k t : Int)
        · have hcan : canB m n rate t = false := by
            unfold canB
            rw [decide_eq_false_iff_not]
            intro h
            unfold canP at h
            have := h ht0 (by omega) k hlt (by omega)
            rw [Int.toNat_natCast] at this
            omega
          have HC := Lib.hid hcan
          clear hcan
          go_wp2
          go_quiet (fail)
          go_wp2
          go_ret
          exact ⟨congrArg (fun b => Ending.returned (.bool b)) HC.out.symm, _, by first | rfl | exact World.drewN_drewN _ _ _⟩
        · have hlt2 : (m k t : Int) < rate := by omega
          clear hge
          go_wp2
          go_quiet (fail)
          go_wp2
          go_roundw
          case rel =>
            refine ⟨k + 1, by omega, by go_num, fun b hb hbt => ?_, _, rfl⟩
            by_cases e : b = k
            · subst e; exact hlt2
            · exact HA.out b (by omega) hbt
          case measure => simp [intOf]; omega
    · have hcan : canB m n rate t = true := by
        unfold canB
        rw [decide_eq_true_iff]
        unfold canP
        intro _ _ b hb hbt
        rw [Int.toNat_natCast]
        exact hall b (by omega) (by omega)
      have HC := Lib.hid hcan
      clear hcan hall
      go_wp2
      go_ret
      exact ⟨congrArg (fun b => Ending.returned (.bool b)) HC.out.symm, _, by first | rfl | exact World.drewN_drewN _ _ _⟩

theorem can_out (g n : Nat) (rate : Int) (m : Nat → Nat → Nat) (t : Int) (w : World) (hG : Gau w g n rate m) (ht : t < 0 ∨ (n : Int) ≤ t) :
    Calls Try.prog 22 #[.pointer (some ⟨g, 0, none⟩), .int .i64 t] w fun e w' => e = .returned (.bool (canB m n rate t)) ∧ ∃ q, w' = w.drewN q := by
  obtain ⟨cs, hb, hsz, hc0, hc1, hcs⟩ := hG
  have h0 : w.cell? ⟨g, 0, none⟩ = some (.int .i64 (n : Int)) := (hb.cell 0).trans hc0
  have hd : decide (0 ≤ t ∧ t < (n : Int)) = false := by rw [decide_eq_false_iff_not]; omega
  have hcan : canB m n rate t = true := by
    unfold canB
    rw [decide_eq_true_iff]
    unfold canP
    intro _ _
    omega
  rw [hcan]
  go_enter Try.func22, Try.ntmps22
  go_wp2_with (go_at_call 24; refine (in_any g n t _ h0).mono ?_; rw [hd]; rintro e w' ⟨rfl, rfl⟩)
  go_ret
  exact ⟨rfl, 0, rfl⟩

theorem can_any (g n : Nat) (rate : Int) (m : Nat → Nat → Nat) (t : Int) (w : World) (hG : Gau w g n rate m) (hn : n ≤ 9) :
    Calls Try.prog 22 #[.pointer (some ⟨g, 0, none⟩), .int .i64 t] w fun e w' => e = .returned (.bool (canB m n rate t)) ∧ ∃ q, w' = w.drewN q := by
  by_cases ht : t < 0 ∨ (n : Int) ≤ t
  · exact can_out g n rate m t w hG ht
  · obtain ⟨k, rfl⟩ := Int.eq_ofNat_of_zero_le (show 0 ≤ t by omega)
    exact can_in g n rate m k w hG hn (by omega)

theorem tick_out (g n : Nat) (t : Int) (w : World) (hc : w.cell? ⟨g, 0, none⟩ = some (.int .i64 (n : Int))) (ht : t < 0 ∨ (n : Int) ≤ t) :
    Calls Try.prog 23 #[.pointer (some ⟨g, 0, none⟩), .int .i64 t] w fun e w' => e = .returned (.tuple #[]) ∧ w = w' := by
  have hd : decide (0 ≤ t ∧ t < (n : Int)) = false := by rw [decide_eq_false_iff_not]; omega
  go_enter Try.func23, Try.ntmps23
  go_wp2_with (go_at_call 24; refine (in_any g n t _ hc).mono ?_; rw [hd]; rintro e w' ⟨rfl, rfl⟩)
  exact bodyPost_ret (results_none rfl _ _ _) rfl ⟨rfl, rfl⟩

def z0 : Value := .int .i64 0
def zrow (cs : Array Value) (o : Nat) : Array Value :=
  ((((((((cs.setIfInBounds o z0).setIfInBounds (o + 1) z0).setIfInBounds (o + 2) z0).setIfInBounds (o + 3) z0).setIfInBounds (o + 4) z0).setIfInBounds (o + 5) z0).setIfInBounds (o + 6) z0).setIfInBounds (o + 7) z0).setIfInBounds (o + 8) z0
theorem zrow_size (cs : Array Value) (o : Nat) : (zrow cs o).size = cs.size := by simp [zrow]
theorem zrow_get (cs : Array Value) (o j : Nat) (h : o + 9 ≤ cs.size) : (zrow cs o)[j]? = if o ≤ j ∧ j < o + 9 then some z0 else cs[j]? := by
  unfold zrow
  simp only [Array.getElem?_setIfInBounds, Array.size_setIfInBounds]
  by_cases hj : o ≤ j ∧ j < o + 9
  · rw [if_pos hj]
    have hs : j < cs.size := by omega
    have h1 : j = o ∨ j = o + 1 ∨ j = o + 2 ∨ j = o + 3 ∨ j = o + 4 ∨ j = o + 5 ∨ j = o + 6 ∨ j = o + 7 ∨ j = o + 8 := by omega
    rcases h1 with rfl | rfl | rfl | rfl | rfl | rfl | rfl | rfl | rfl <;> simp [hs]
  · rw [if_neg hj, if_neg (by omega), if_neg (by omega), if_neg (by omega), if_neg (by omega), if_neg (by omega), if_neg (by omega), if_neg (by omega), if_neg (by omega), if_neg (by omega)]
theorem Gau.congr {w : World} {g n : Nat} {rate : Int} {m m' : Nat → Nat → Nat} (h : Gau w g n rate m) (e : ∀ a, a < n → ∀ b, b < n → a ≠ b → m a b = m' a b) : Gau w g n rate m' := by
  obtain ⟨cs, hb, hsz, hc0, hc1, hcs⟩ := h
  exact ⟨cs, hb, hsz, hc0, hc1, fun a ha b hb2 hab => by rw [← e a ha b hb2 hab]; exact hcs a ha b hb2 hab⟩
/-- one cell is written -/
theorem Gau.set_ {w : World} {g n : Nat} {rate : Int} {m : Nat → Nat → Nat} (h : Gau w g n rate m) (hn : n ≤ 9) {x y : Nat} (hx : x < n) (hy : y < n) (v : Nat) :
    Gau (w.setCell ⟨g, 2 + x * 9 + y, none⟩ (.int .i64 (v : Int))) g n rate (fun a b => if a = x ∧ b = y then v else m a b) := by
  obtain ⟨cs, hb, hsz, hc0, hc1, hcs⟩ := h
  refine ⟨_, hb.set_ (2 + x * 9 + y) _, by simpa using hsz, ?_, ?_, fun a ha b hb2 hab => ?_⟩
  · rw [Array.getElem?_setIfInBounds, if_neg (by omega)]; exact hc0
  · rw [Array.getElem?_setIfInBounds, if_neg (by omega)]; exact hc1
  · rw [Array.getElem?_setIfInBounds]
    dsimp only
    by_cases e : a = x ∧ b = y
    · obtain ⟨rfl, rfl⟩ := e
      rw [if_pos rfl, if_pos (by omega), if_pos ⟨rfl, rfl⟩]
    · rw [if_neg (by omega), if_neg e]
      exact hcs a ha b hb2 hab
theorem Gau.cell {w : World} {g n : Nat} {rate : Int} {m : Nat → Nat → Nat} (h : Gau w g n rate m) {a b : Nat} (ha : a < n) (hb : b < n) (hab : a ≠ b) : w.cell? ⟨g, 2 + a * 9 + b, none⟩ = some (.int .i64 (m a b : Int)) := by
  obtain ⟨cs, hbl, hsz, hc0, hc1, hcs⟩ := h
  exact (hbl.cell _).trans (hcs a ha b hb hab)
theorem Gau.frozen {w : World} {g n : Nat} {rate : Int} {m : Nat → Nat → Nat} (h : Gau w g n rate m) (i : Nat) : w.frozen? ⟨g, i, none⟩ = false := by
  obtain ⟨cs, hbl, _⟩ := h
  exact hbl.frozen _
theorem Gau.lt {w : World} {g n : Nat} {rate : Int} {m : Nat → Nat → Nat} (h : Gau w g n rate m) : g < w.heap.size := by
  obtain ⟨cs, hbl, _⟩ := h
  exact hbl.lt
theorem Gau.drewN {w : World} {g n : Nat} {rate : Int} {m : Nat → Nat → Nat} (h : Gau w g n rate m) (q : Nat) : Gau (w.drewN q) g n rate m := h
theorem Gau.drew {w : World} {g n : Nat} {rate : Int} {m : Nat → Nat → Nat} (h : Gau w g n rate m) : Gau w.drew g n rate m := h
theorem Gau.grown {w w' : World} {g n : Nat} {rate : Int} {m : Nat → Nat → Nat} {row : Option Nat} (h : Gau w g n rate m) (hg : w.grownBy w' row) (hr : some g ≠ row) : Gau w' g n rate m := by
  obtain ⟨cs, hbl, r⟩ := h
  exact ⟨cs, hbl.grown hg hr, r⟩
theorem Gau.below {w w' : World} {B g n : Nat} {rate : Int} {m : Nat → Nat → Nat} (h : Gau w g n rate m) (hg : Below B w w') (hr : g < B) : Gau w' g n rate m := by
  obtain ⟨cs, hbl, r⟩ := h
  exact ⟨cs, hbl.below hg hr, r⟩

/-- a row of nine is cleared -/
def zw (w : World) (g o : Nat) : World :=
  ((((((((w.setCell ⟨g, o, none⟩ z0).setCell ⟨g, o + 1, none⟩ z0).setCell ⟨g, o + 2, none⟩ z0).setCell ⟨g, o + 3, none⟩ z0).setCell ⟨g, o + 4, none⟩ z0).setCell ⟨g, o + 5, none⟩ z0).setCell ⟨g, o + 6, none⟩ z0).setCell ⟨g, o + 7, none⟩ z0).setCell ⟨g, o + 8, none⟩ z0
theorem Gau.clear {w : World} {g n : Nat} {rate : Int} {m : Nat → Nat → Nat} (h : Gau w g n rate m) (hn : n ≤ 9) {t : Nat} (ht : t < n) :
    Gau (zw w g (2 + t * 9)) g n rate (fun a b => if a = t then 0 else m a b) := by
  obtain ⟨cs, hb, hsz, hc0, hc1, hcs⟩ := h
  have hbz : Blk (zw w g (2 + t * 9)) g 37 (zrow cs (2 + t * 9)) := ((((((((hb.set_ _ _).set_ _ _).set_ _ _).set_ _ _).set_ _ _).set_ _ _).set_ _ _).set_ _ _).set_ _ _
  have hg := zrow_get cs (2 + t * 9)
  refine ⟨_, hbz, by rw [zrow_size]; exact hsz, ?_, ?_, fun a ha b hb2 hab => ?_⟩
  · rw [hg 0 (by omega), if_neg (by omega)]; exact hc0
  · rw [hg 1 (by omega), if_neg (by omega)]; exact hc1
  · rw [hg _ (by omega)]
    dsimp only
    by_cases e : a = t
    · subst e
      rw [if_pos (by omega), if_pos rfl]
      rfl
    · rw [if_neg (by omega), if_neg e]
      exact hcs a ha b hb2 hab
theorem zw_only (w : World) (g o : Nat) : w.grownBy (zw w g o) (some g) := by
  have h0 : w.grownBy w (some g) := ⟨rfl, rfl, rfl, Nat.le_refl _, fun _ _ _ => rfl⟩
  have h1 := only_setCell (p := ⟨g, o, none⟩) h0 (.inl rfl) z0
  have h2 := only_setCell (p := ⟨g, o + 1, none⟩) h1 (.inl rfl) z0
  have h3 := only_setCell (p := ⟨g, o + 2, none⟩) h2 (.inl rfl) z0
  have h4 := only_setCell (p := ⟨g, o + 3, none⟩) h3 (.inl rfl) z0
  have h5 := only_setCell (p := ⟨g, o + 4, none⟩) h4 (.inl rfl) z0
  have h6 := only_setCell (p := ⟨g, o + 5, none⟩) h5 (.inl rfl) z0
  have h7 := only_setCell (p := ⟨g, o + 6, none⟩) h6 (.inl rfl) z0
  have h8 := only_setCell (p := ⟨g, o + 7, none⟩) h7 (.inl rfl) z0
  exact only_setCell (p := ⟨g, o + 8, none⟩) h8 (.inl rfl) z0

set_option maxHeartbeats 1000000 in
theorem tick_in (g n : Nat) (rate : Int) (m : Nat → Nat → Nat) (t : Nat) (w : World) (hG : Gau w g n rate m) (hn : n ≤ 9) (ht : t < n) (hm : ∀ b, b < n → b ≠ t → m b t < 1000) :
    Calls Try.prog 23 #[.pointer (some ⟨g, 0, none⟩), .int .i64 (t : Int)] w fun e w' => e = .returned (.tuple #[]) ∧ Gau w' g n rate (tickF m n t) ∧ w.grownBy w' (some g) := by
  obtain ⟨cs, hb, hsz, hc0, hc1, hcs⟩ := hG
  have h0 : w.cell? ⟨g, 0, none⟩ = some (.int .i64 (n : Int)) := (hb.cell 0).trans hc0
  have ht0 : (0 : Int) ≤ (t : Int) := by omega
  have ht9 : (t : Int) < 9 := by omega
  have hd : decide (0 ≤ (t : Int) ∧ (t : Int) < (n : Int)) = true := by rw [decide_eq_true_iff]; omega
  have hex : ∀ i, i < 9 → ∃ v, w.cell? ⟨g, 2 + t * 9 + i, none⟩ = some v := fun i hi => ⟨cs[2 + t * 9 + i]'(by omega), (hb.cell _).trans (Array.getElem?_eq_getElem (by omega))⟩
  obtain ⟨v0, k0⟩ := hex 0 (by omega)
  obtain ⟨v1, k1⟩ := hex 1 (by omega)
  obtain ⟨v2, k2⟩ := hex 2 (by omega)
  obtain ⟨v3, k3⟩ := hex 3 (by omega)
  obtain ⟨v4, k4⟩ := hex 4 (by omega)
  obtain ⟨v5, k5⟩ := hex 5 (by omega)
  obtain ⟨v6, k6⟩ := hex 6 (by omega)
  obtain ⟨v7, k7⟩ := hex 7 (by omega)
  obtain ⟨v8, k8⟩ := hex 8 (by omega)
  rw [Nat.add_zero] at k0
  have f0 := hb.frozen (2 + t * 9)
  have f1 := hb.frozen (2 + t * 9 + 1)
  have f2 := hb.frozen (2 + t * 9 + 2)
  have f3 := hb.frozen (2 + t * 9 + 3)
  have f4 := hb.frozen (2 + t * 9 + 4)
  have f5 := hb.frozen (2 + t * 9 + 5)
  have f6 := hb.frozen (2 + t * 9 + 6)
  have f7 := hb.frozen (2 + t * 9 + 7)
  have f8 := hb.frozen (2 + t * 9 + 8)
  clear hex
  go_enter Try.func23, Try.ntmps23
  go_wp2_with (go_at_call 24; refine (in_any g n t _ h0).mono ?_; rw [hd]; rintro e w' ⟨rfl, rfl⟩)
  have hG0 : Gau w g n rate m := ⟨cs, hb, hsz, hc0, hc1, hcs⟩
  clear k0 k1 k2 k3 k4 k5 k6 k7 k8 f0 f1 f2 f3 f4 f5 f6 f7 f8
  have HM := Lib.hid hm
  clear hm hcs hc0 hc1 hsz hb h0 hd
  go_loopw [4, 19] (fun _ i wr => ∃ k : Nat, k ≤ n ∧ i = .int .i64 k ∧ Gau wr g n rate (fun a b => if a = t then 0 else if b = t ∧ a < k then m a b + 1 else m a b) ∧ w.grownBy wr (some g)) (fun _ i _ => n - (intOf i).toNat)
  case atStart => exact ⟨0, Nat.zero_le _, rfl, (hG0.clear hn ht).congr (fun a ha b hb hab => by split <;> simp), zw_only w g _⟩
  case round =>
    obtain ⟨k, hk, rfl, hGk, honly⟩ := hrel
    by_cases hlt : k < n
    · have hk0 : (0 : Int) ≤ (k : Int) := by omega
      have hk9 : (k : Int) < 9 := by omega
      by_cases hkt : k = t
      · have hne : ((k : Int) != (t : Int)) = false := by simp; omega
        go_wp2
        go_roundw
        case rel =>
          refine ⟨k + 1, by omega, by go_num, hGk.congr (fun a ha b hb hab => ?_), honly⟩
          by_cases e1 : a = t
          · rw [if_pos e1, if_pos e1]
          · rw [if_neg e1, if_neg e1]
            by_cases e2 : b = t
            · by_cases e3 : a < k
              · rw [if_pos ⟨e2, e3⟩, if_pos ⟨e2, by omega⟩]
              · rw [if_neg (by omega), if_neg (by omega)]
            · rw [if_neg (by omega), if_neg (by omega)]
        case measure => simp [intOf]; omega
      · have hne : ((k : Int) != (t : Int)) = true := by simp; omega
        have hck := hGk.cell hlt ht hkt
        rw [if_neg hkt, if_neg (by omega)] at hck
        have hfk := hGk.frozen (2 + k * 9 + t)
        have hmk := HM.out k hlt hkt
        have hm0 : (0 : Int) ≤ (m k t : Int) := by omega
        have hm1 : (m k t : Int) < 1000 := by omega
        go_wp2
        go_region
        go_wp2
        go_roundw
        case rel =>
          refine ⟨k + 1, by omega, by go_num, ?_, ?_⟩
          · have h1 := hGk.set_ hn hlt ht (m k t + 1)
            refine Gau.congr (m := fun a b => if a = k ∧ b = t then m k t + 1 else if a = t then 0 else if b = t ∧ a < k then m a b + 1 else m a b) h1.drew (fun a ha b hb hab => ?_)
            by_cases e0 : a = k ∧ b = t
            · obtain ⟨rfl, rfl⟩ := e0
              rw [if_pos ⟨rfl, rfl⟩, if_neg hkt, if_pos ⟨rfl, by omega⟩]
            · rw [if_neg e0]
              by_cases e1 : a = t
              · rw [if_pos e1, if_pos e1]
              · rw [if_neg e1, if_neg e1]
                by_cases e2 : b = t ∧ a < k
                · rw [if_pos e2, if_pos ⟨e2.1, by omega⟩]
                · rw [if_neg e2, if_neg (by omega)]
          · exact only_drew (only_setCell honly (.inl rfl) _)
        case measure => simp [intOf]; omega
    · go_wp2
      go_end0
      refine ⟨rfl, hGk.congr (fun a ha b hb hab => ?_), honly⟩
      unfold tickF
      rw [if_pos (show 0 ≤ (t : Int) ∧ (t : Int) < (n : Int) by omega)]
      by_cases e1 : a = t
      · rw [if_pos e1, if_pos (by omega)]
      · rw [if_neg e1, if_neg (show ¬ (a : Int) = (t : Int) by omega)]
        by_cases e2 : b = t
        · rw [if_pos (by omega), if_pos (show (b : Int) = (t : Int) by omega)]
        · rw [if_neg (by omega), if_neg (show ¬ (b : Int) = (t : Int) by omega)]

theorem tick_any (g n : Nat) (rate : Int) (m : Nat → Nat → Nat) (t : Int) (w : World) (hG : Gau w g n rate m) (hn : n ≤ 9) (hr : rate ≤ 16) (hc : canB m n rate t = true) :
    Calls Try.prog 23 #[.pointer (some ⟨g, 0, none⟩), .int .i64 t] w fun e w' => e = .returned (.tuple #[]) ∧ Gau w' g n rate (tickF m n t) ∧ w.grownBy w' (some g) := by
  by_cases ht : t < 0 ∨ (n : Int) ≤ t
  · have h0 : w.cell? ⟨g, 0, none⟩ = some (.int .i64 (n : Int)) := by
      obtain ⟨cs, hb, _, hc0, _⟩ := hG
      exact (hb.cell 0).trans hc0
    refine (tick_out g n t w h0 ht).mono ?_
    rintro e w' ⟨rfl, rfl⟩
    refine ⟨rfl, hG.congr (fun a ha b hb hab => ?_), ⟨rfl, rfl, rfl, Nat.le_refl _, fun _ _ _ => rfl⟩⟩
    unfold tickF
    rw [if_neg (by omega)]
  · obtain ⟨k, rfl⟩ := Int.eq_ofNat_of_zero_le (show 0 ≤ t by omega)
    unfold canB at hc
    rw [decide_eq_true_iff] at hc
    unfold canP at hc
    refine tick_in g n rate m k w hG hn (by omega) (fun b hb hbk => ?_)
    have := hc (by omega) (by omega) b hb (by omega)
    rw [Int.toNat_natCast] at this
    omega

/-- only block g has turned -/
theorem refuses_any (g n : Nat) (rate : Int) (m : Nat → Nat → Nat) (t : Int) (w : World) (hG : Gau w g n rate m) (hn : n ≤ 9) (hr : rate ≤ 16) :
    Calls Try.prog 20 #[.pointer (some ⟨g, 0, none⟩), .int .i64 t] w fun e w' => e = .returned (.bool (!canB m n rate t)) ∧ Gau w' g n rate (if canB m n rate t then tickF m n t else m) ∧ w.grownBy w' (some g) := by
  cases hc : canB m n rate t
  · have HC := Lib.hid hc
    clear hc
    go_enter Try.func20, Try.ntmps20
    go_wp2_with (go_at_call 22; refine (can_any g n rate m t _ hG hn).mono ?_; rw [HC.out]; rintro e w' ⟨rfl, q, rfl⟩)
    go_ret
    exact ⟨rfl, hG, ⟨rfl, rfl, rfl, Nat.le_refl _, fun _ _ _ => rfl⟩⟩
  · have HC := Lib.hid hc
    clear hc
    go_enter Try.func20, Try.ntmps20
    go_wp2_with (first
      | (go_at_call 22; refine (can_any g n rate m t _ hG hn).mono ?_; rw [HC.out]; rintro e w' ⟨rfl, q, rfl⟩)
      | (go_at_call 23; refine (tick_any g n rate m t _ (hG.drewN q) hn hr HC.out).mono ?_; rintro e w2 ⟨rfl, hG2, ho2⟩))
    go_ret
    exact ⟨rfl, hG2, ⟨ho2.os, ho2.tape, ho2.output, ho2.size, ho2.block⟩⟩

end Go.Proofs.Ytdgamdjfcamnlaa
