/- Plain laws of the clock's sets and of its hand; contracts of in and Within. -/
import Derived.Test.YtoiabaienhchjaaH
namespace Go.Proofs.Ytoiabaienhchjaa
open Go.RowKit
set_option linter.unusedVariables false

theorem vi_length (zs : List Int) : (vi zs).length = zs.length := by simp [vi]
theorem vi_get (zs : List Int) (k : Nat) (h : k < zs.length) : (vi zs)[k]? = some (.int .i64 zs[k]) := by simp [vi, h]
theorem reads_at {w : World} {B : Nat} {A : Option Addr} {n : Nat} {zs : List Int} (h : Reads w B 1 A n (vi zs)) (hn : zs.length = n) {k : Nat} (hk : k < n) :
    ∃ ad, A = some ad ∧ ad.block < B ∧ w.cell? (ad.add k) = some (.int .i64 (zs[k]'(by omega))) := by
  obtain ⟨ad, u, e, hb, hx, hc⟩ := h.at_ hk
  rw [vi_get zs k (by omega)] at hx
  injection hx with hx
  exact ⟨ad, e, hb, by rw [hc, hx]⟩

theorem within_any (x lo hi : Int) (w : World) :
    Calls Try.prog 6 #[.int .i64 x, .int .i64 lo, .int .i64 hi] w fun e w' => e = .returned (.int .i64 (if x < lo then lo else if hi < x then hi else x)) ∧ w = w' := by
  by_cases h1 : x < lo
  · rw [if_pos h1]
    go_enter Try.func6, Try.ntmps6
    go_wp2
    go_ret
    exact ⟨rfl, rfl⟩
  · rw [if_neg h1]
    by_cases h2 : hi < x
    · rw [if_pos h2]
      go_enter Try.func6, Try.ntmps6
      go_wp2
      go_ret
      exact ⟨rfl, rfl⟩
    · rw [if_neg h2]
      go_enter Try.func6, Try.ntmps6
      go_wp2
      go_ret
      exact ⟨rfl, rfl⟩

set_option maxHeartbeats 400000 in
theorem in_any (A : Option Addr) (n c : Nat) (l : List Int) (x : Int) (w : World) (hr : Reads w w.heap.size 1 A n (vi l)) (hl : l.length = n) (hn : n ≤ 64) :
    Calls Try.prog 12 #[.slice A n c, .int .i64 x] w fun e w' => e = .returned (.bool (decide (x ∈ l))) ∧ w = w' := by
  have HL := Lib.hid hl
  clear hl
  go_enter Try.func12, Try.ntmps12
  go_wp2
  go_loopw [5] (fun i wr => ∃ k : Nat, k ≤ n ∧ i = .int .i64 k ∧ (∀ y ∈ l.take k, y ≠ x) ∧ w = wr) (fun i _ => n - (intOf i).toNat)
  case atStart => exact ⟨0, Nat.zero_le _, rfl, by simp, by trivial⟩
  case round =>
    obtain ⟨k, hk, rfl, hno, rfl⟩ := hrel
    have HNO := Lib.hid hno
    clear hno
    by_cases hlt : k < n
    · obtain ⟨ad, rfl, hadb, hc⟩ := reads_at hr HL.out hlt
      have hkl : k < l.length := by have := HL.out; omega
      have HT : Hid (l.take (k + 1) = l.take k ++ [l[k]'hkl]) := List.take_succ_eq_append_getElem hkl
      have HM : Hid (l[k]'hkl ∈ l) := List.getElem_mem hkl
      generalize l[k]'hkl = z at hc HT HM
      by_cases hz : z = x
      · have hzz : (z == x) = true := beq_iff_eq.2 hz
        have HZ := Lib.hid hz
        clear hz
        go_wp2
        go_ret
        refine ⟨?_, rfl⟩
        show Ending.returned (.bool true) = _
        rw [decide_eq_true (by rw [← HZ.out]; exact HM.out)]
      · have hzz : (z == x) = false := beq_eq_false_iff_ne.2 hz
        have HZ := Lib.hid hz
        clear hz
        go_wp2
        go_roundw
        case rel =>
          refine ⟨k + 1, by omega, by go_num, ?_, by trivial⟩
          rw [HT.out]
          intro y hy
          rcases List.mem_append.1 hy with hy | hy
          · exact HNO.out y hy
          · rw [List.mem_singleton.1 hy]; exact HZ.out
        case measure => simp [intOf]; omega
    · go_wp2
      go_ret
      refine ⟨?_, rfl⟩
      show Ending.returned (.bool false) = _
      rw [decide_eq_false]
      intro hx
      refine HNO.out x ?_ rfl
      rw [List.take_of_length_le (by have := HL.out; omega)]
      exact hx

theorem mem_iff (s n : Nat) (x : Int) : x ∈ mem s n ↔ ∃ j, j < n ∧ s.testBit j = true ∧ x = (j : Int) := by
  unfold mem
  constructor
  · intro h
    obtain ⟨j, hj, rfl⟩ := List.mem_map.1 h
    obtain ⟨h1, h2⟩ := List.mem_filter.1 hj
    exact ⟨j, List.mem_range.1 h1, h2, rfl⟩
  · rintro ⟨j, h1, h2, rfl⟩
    exact List.mem_map.2 ⟨j, List.mem_filter.2 ⟨List.mem_range.2 h1, h2⟩, rfl⟩
theorem mem_low (s n : Nat) (h : ∀ j, n ≤ j → s.testBit j = false) : ∀ k, n ≤ k → mem s k = mem s n
  | 0, hk => by rw [show n = 0 by omega]
  | k + 1, hk => by
    rcases Nat.lt_or_ge k n with h1 | h1
    · rw [show k + 1 = n by omega]
    · rw [mem_succ, h k h1, mem_low s n h k h1]; rfl
theorem mem_full (s : Nat) : ∀ n, (∀ j, j < n → s.testBit j = true) → (mem s n).length = n
  | 0, _ => by simp [mem]
  | n + 1, h => by
    rw [mem_succ, h n (by omega), if_pos rfl, List.length_append, mem_full s n (fun j hj => h j (by omega))]
    rfl
theorem mem_short (s k : Nat) : ∀ n, k < n → s.testBit k = false → (mem s n).length < n
  | n + 1, hk, h => by
    rw [mem_succ]
    rcases Nat.lt_or_ge k n with h1 | h1
    · have := mem_short s k n h1 h
      split <;> simp <;> omega
    · rw [show n = k by omega, h, if_neg (by simp)]
      have := mem_len s k
      omega

/-- which sets a ring may have -/
structure Tidy (n u p m : Nat) : Prop where
  u0 : ∀ j, n ≤ j → u.testBit j = false
  sub : ∀ j, p.testBit j = true → u.testBit j = true
theorem Tidy.p0 {n u p m : Nat} (h : Tidy n u p m) (j : Nat) (hj : n ≤ j) : p.testBit j = false := by
  cases hp : p.testBit j
  · rfl
  · have := h.sub j hp
    rw [h.u0 j hj] at this
    exact this.symm
theorem tidy_zero (n : Nat) : Tidy n 0 0 0 := ⟨fun j _ => by simp, fun j h => by simp at h⟩
theorem doR_tidy {n u p m : Nat} (kind i : Int) (h : Tidy n u p m) (hn : n ≤ 64) (hu : u < 18446744073709551616) (hp : p < 18446744073709551616) :
    Tidy n (doR n u p m kind i).2.1 (doR n u p m kind i).2.2.1 (doR n u p m kind i).2.2.2 := by
  unfold doR
  split
  · exact ⟨h.u0, h.sub⟩
  · rename_i hi
    have hi : 0 ≤ i ∧ i < n := by omega
    have hk : i.toNat < n := by omega
    have h64 : i.toNat < 64 := by omega
    split
    · refine ⟨fun j hj => ?_, fun j hj => ?_⟩
      · show (put u i.toNat true).testBit j = false
        rw [put_bit _ _ _ hu h64, if_neg (by omega)]; exact h.u0 j hj
      · show (put u i.toNat true).testBit j = true
        have hj : (put p i.toNat false).testBit j = true := hj
        rw [put_bit _ _ _ hp h64] at hj
        rw [put_bit _ _ _ hu h64]
        split at hj
        · cases hj
        · rename_i hne; rw [if_neg hne]; exact h.sub j hj
    · split
      · refine ⟨fun j hj => ?_, fun j hj => ?_⟩
        · show (put u i.toNat false).testBit j = false
          rw [put_bit _ _ _ hu h64, if_neg (by omega)]; exact h.u0 j hj
        · show (put u i.toNat false).testBit j = true
          have hj : (put p i.toNat false).testBit j = true := hj
          rw [put_bit _ _ _ hp h64] at hj
          rw [put_bit _ _ _ hu h64]
          split at hj
          · cases hj
          · rename_i hne; rw [if_neg hne]; exact h.sub j hj
      · split
        · split <;> exact ⟨h.u0, h.sub⟩
        · split
          · split
            · rename_i hb
              refine ⟨h.u0, fun j hj => ?_⟩
              have hj : (put p i.toNat true).testBit j = true := hj
              rw [put_bit _ _ _ hp h64] at hj
              split at hj
              · rename_i he; rw [he]; exact hb
              · exact h.sub j hj
            · exact ⟨h.u0, h.sub⟩
          · refine ⟨h.u0, fun j hj => ?_⟩
            have hj : (put p i.toNat false).testBit j = true := hj
            rw [put_bit _ _ _ hp h64] at hj
            split at hj
            · cases hj
            · exact h.sub j hj

theorem spin_spec {n p : Nat} (hn : 0 < n) {r : Nat × Nat × Nat} : ∀ {f m h : Nat}, spin n p f m h = some r → h < n → r.1 < n ∧ p.testBit r.1 = false
  | f + 1, m, h, hs, hh => by
    rw [spin] at hs
    split at hs
    · exact spin_spec hn hs (Nat.mod_lt _ hn)
    · rename_i h1
      split at hs
      · exact spin_spec hn hs (Nat.mod_lt _ hn)
      · injection hs with hs
        subst hs
        exact ⟨hh, eq_false_of_ne_true h1⟩
theorem mod_ne {n h s : Nat} (hh : h < n) (h0 : 0 < s) (hs : s < n) : (h + s) % n ≠ h := by
  rcases Nat.lt_or_ge (h + s) n with h1 | h1
  · rw [Nat.mod_eq_of_lt h1]; omega
  · rw [Nat.mod_eq_sub_mod h1, Nat.mod_eq_of_lt (by omega)]; omega
theorem mod_step (n h t : Nat) : ((h + 1) % n + t) % n = (h + (t + 1)) % n := by
  rw [Nat.mod_add_mod]; congr 1; omega
/-- a place that is neither pinned nor marked, d ahead: the hand stops within d + 1 rounds, at a place that was not marked -/
theorem spin_dist {n p : Nat} (h64 : n ≤ 64) : ∀ (d m h f : Nat), m < 18446744073709551616 → h < n → d < n → p.testBit ((h + d) % n) = false → m.testBit ((h + d) % n) = false → d < f →
    ∃ r, spin n p f m h = some r ∧ (∃ t, t ≤ d ∧ r.1 = (h + t) % n) ∧ m.testBit r.1 = false
  | d, m, h, 0, _, _, _, _, _, hf => by omega
  | 0, m, h, f + 1, hm, hh, hd, hp, hq, hf => by
    rw [Nat.add_zero, Nat.mod_eq_of_lt hh] at hp hq
    rw [spin, hp, if_neg (by simp), hq, if_neg (by simp)]
    exact ⟨_, rfl, ⟨0, Nat.le_refl _, (Nat.mod_eq_of_lt hh).symm⟩, hq⟩
  | d + 1, m, h, f + 1, hm, hh, hd, hp, hq, hf => by
    have hn : 0 < n := by omega
    have hl := Nat.mod_lt (h + 1) hn
    rw [spin]
    split
    · obtain ⟨r, h1, ⟨t, h2, h3⟩, h4⟩ := spin_dist h64 d m ((h + 1) % n) f hm hl (by omega) (by rw [mod_step]; exact hp) (by rw [mod_step]; exact hq) (by omega)
      exact ⟨r, h1, ⟨t + 1, by omega, by rw [h3, mod_step]⟩, h4⟩
    · split
      · have hpb := put_bit m h false hm (by omega)
        obtain ⟨r, h1, ⟨t, h2, h3⟩, h4⟩ := spin_dist h64 d (put m h false) ((h + 1) % n) f (put_lt _ _ _ hm (by omega)) hl (by omega) (by rw [mod_step]; exact hp)
          (by rw [mod_step, hpb]; split; rfl; exact hq) (by omega)
        rw [mod_step] at h3
        refine ⟨r, h1, ⟨t + 1, by omega, h3⟩, ?_⟩
        rw [hpb, if_neg (by rw [h3]; exact mod_ne hh (by omega) (by omega))] at h4
        exact h4
      · rename_i h2
        exact ⟨_, rfl, ⟨0, Nat.zero_le _, (Nat.mod_eq_of_lt hh).symm⟩, eq_false_of_ne_true h2⟩
/-- a place that is not pinned, d ahead: the hand stops within d + n + 1 rounds -/
theorem spin_some {n p : Nat} (h64 : n ≤ 64) : ∀ (d m h f : Nat), m < 18446744073709551616 → h < n → d < n → p.testBit ((h + d) % n) = false → d + n < f → ∃ r, spin n p f m h = some r
  | d, m, h, 0, _, _, _, _, hf => by omega
  | 0, m, h, f + 1, hm, hh, hd, hp, hf => by
    have hn : 0 < n := by omega
    have hl := Nat.mod_lt (h + 1) hn
    rw [Nat.add_zero, Nat.mod_eq_of_lt hh] at hp
    rw [spin, hp, if_neg (by simp)]
    split
    · have hpb := put_bit m h false hm (by omega)
      have e : ((h + 1) % n + (n - 1)) % n = h := by rw [mod_step, show h + (n - 1 + 1) = h + n by omega, Nat.add_mod_right, Nat.mod_eq_of_lt hh]
      obtain ⟨r, h1, _⟩ := spin_dist h64 (n - 1) (put m h false) ((h + 1) % n) f (put_lt _ _ _ hm (by omega)) hl (by omega) (by rw [e]; exact hp) (by rw [e, hpb, if_pos rfl]) (by omega)
      exact ⟨r, h1⟩
    · exact ⟨_, rfl⟩
  | d + 1, m, h, f + 1, hm, hh, hd, hp, hf => by
    have hn : 0 < n := by omega
    have hl := Nat.mod_lt (h + 1) hn
    rw [spin]
    split
    · exact spin_some h64 d m ((h + 1) % n) f hm hl (by omega) (by rw [mod_step]; exact hp) (by omega)
    · split
      · exact spin_some h64 d (put m h false) ((h + 1) % n) f (put_lt _ _ _ hm (by omega)) hl (by omega) (by rw [mod_step]; exact hp) (by omega)
      · exact ⟨_, rfl⟩
theorem ahead {n h q : Nat} (hh : h < n) (hq : q < n) : ∃ d, d < n ∧ (h + d) % n = q := by
  rcases Nat.lt_or_ge q h with h1 | h1
  · exact ⟨q + n - h, by omega, by rw [show h + (q + n - h) = q + n by omega, Nat.add_mod_right, Nat.mod_eq_of_lt hq]⟩
  · exact ⟨q - h, by omega, by rw [show h + (q - h) = q by omega, Nat.mod_eq_of_lt hq]⟩

end Go.Proofs.Ytoiabaienhchjaa
