/- Contracts of list, Used, Pinned that say where the list lies; what the hand's way leaves of a list. -/
import Derived.Test.YtoiabaienhchjaaI
namespace Go.Proofs.Ytoiabaienhchjaa
open Go.RowKit
set_option linter.unusedVariables false

/-- a list in memory of the call's own -/
def Own (w : World) (zs : List Int) (e : Ending) (w' : World) : Prop :=
  ∃ (A : Option Addr) (c : Nat), e = .returned (.slice A zs.length c) ∧ Reads w' w'.heap.size 1 A zs.length (vi zs) ∧ (∀ ad, A = some ad → w.heap.size ≤ ad.block) ∧ Below w.heap.size w w'
theorem own_of {w w' : World} {zs : List Int} {v : Value} (h : w'.ownsRow w.heap.size 3 1 v zs.length (vi zs)) (hb : Below w.heap.size w w') : Own w zs (.returned v) w' := by
  have h2 := h
  rcases h.2 with ⟨rfl, h0⟩ | ⟨g, cap, cur, rfl, hgb, _, hc, hm, _⟩
  · rw [h0] at h2
    exact ⟨none, 0, by rw [h0], by rw [h0]; exact Reads.of_own h2, (fun ad h => by cases h), hb⟩
  · exact ⟨_, _, rfl, Reads.of_own h2, (fun ad h => by injection h with h; subst h; exact hgb), hb⟩
set_option maxHeartbeats 400000 in
theorem list_own (s : Nat) (w : World) (hs : s < 18446744073709551616) : Calls Try.prog 26 #[.int .u64 (s : Int)] w (Own w (mem s 64)) := by
  obtain ⟨i0, hi0, hz0, hz1, hz2⟩ := info_parts int_info
  have HI := Lib.hid hi0
  have HZ0 := Lib.hid hz0
  have HZ1 := Lib.hid hz1
  have HZ2 := Lib.hid hz2
  clear hi0 hz0 hz1 hz2
  go_enter Try.func26, Try.ntmps26
  go_wp2
  go_loopw [3, 5] (fun v i wr => ∃ k : Nat, k ≤ 64 ∧ i = .int .i64 k ∧ wr.ownsRow w.heap.size 3 1 v (mem s k).length (vi (mem s k)) ∧ Below w.heap.size w wr) (fun _ i _ => 64 - (intOf i).toNat)
  case atStart => exact ⟨0, Nat.zero_le _, rfl, ⟨by simp [vi, mem], .inl ⟨rfl, rfl⟩⟩, Below.refl _ _⟩
  case round =>
    obtain ⟨k, hk, rfl, hown, hbel⟩ := hrel
    have hml := mem_len s k
    have HS := Lib.hid (mem_succ s k)
    by_cases hlt : k < 64
    · cases ht : s.testBit k
      · have HT := Lib.hid ht
        go_wp2_with (go_at_call 27; refine (has_at s k _ hs hlt).mono ?_; rw [HT.out]; rintro e w' ⟨rfl, rfl⟩)
        go_roundw
        case rel =>
          have e : mem s (k + 1) = mem s k := by rw [HS.out, HT.out]; rfl
          exact ⟨k + 1, by omega, by go_num, by rw [e]; exact hown, hbel⟩
        case measure => simp [intOf]; omega
      · have HT := Lib.hid ht
        go_wp2_with (first
          | (go_at_call 27; refine (has_at s k _ hs hlt).mono ?_; rw [HT.out]; rintro e w' ⟨rfl, rfl⟩)
          | (at_builtin
             refine wpList_append_any _ rfl (.tmp 11) (.tmp 13) _ rfl w.heap.size 3 i0 _ 1 8 Try.underlying32 HI.out HZ0.out HZ1.out HZ2.out rfl (by omega) u3 _ _ rfl
               (hown.alloc _) (wr.heap.size + 1) _ 1 _ [.int .i64 k] rfl (reads_one wr _ _) (by simp [Value.oneCell']) (by simp only [maxLen]; omega) (by omega) (by simp; have := hbel.size; omega) ?_
             intro v3 w3 hown3 hg3 hat3))
        go_roundw
        case rel =>
          have e : mem s (k + 1) = mem s k ++ [(k : Int)] := by rw [HS.out, HT.out]; rfl
          refine ⟨k + 1, by omega, by go_num, ?_, (hbel.alloc hbel.size _).grown hg3 (by simp; have := hbel.size; omega) (fun q hq => (hown.lt q hq).1)⟩
          rw [e, vi_append, List.length_append]
          exact hown3
        case measure => simp [intOf]; omega
    · have HX : Hid (mem s k = mem s 64) := show _ = _ by rw [show k = 64 by omega]
      go_wp2
      go_ret
      refine own_of ?_ hbel
      rw [← HX.out]
      exact hown

theorem used_own (b n u p m h : Nat) (w : World) (hr : Ring w b n u p m h) : Calls Try.prog 9 #[.pointer (some ⟨b, 0, none⟩)] w (Own w (mem u 64)) := by
  have HR := Lib.hid hr
  have hc := hr.u_
  have hul := hr.ul
  clear hr
  go_enter Try.func9, Try.ntmps9
  go_wp2_with (first
    | (go_at_call 25; refine (ok_ring b n u p m h w HR.out).mono ?_; rintro e w' ⟨rfl, rfl⟩)
    | (go_at_call 26; refine (list_own u w hul).mono ?_; rintro e w' ⟨A, c, rfl, h1, h2, h3⟩))
  go_ret
  exact ⟨A, c, rfl, h1, h2, h3⟩
theorem pinned_own (b n u p m h : Nat) (w : World) (hr : Ring w b n u p m h) : Calls Try.prog 10 #[.pointer (some ⟨b, 0, none⟩)] w (Own w (mem p 64)) := by
  have HR := Lib.hid hr
  have hc := hr.p_
  have hul := hr.pl
  clear hr
  go_enter Try.func10, Try.ntmps10
  go_wp2_with (first
    | (go_at_call 25; refine (ok_ring b n u p m h w HR.out).mono ?_; rintro e w' ⟨rfl, rfl⟩)
    | (go_at_call 26; refine (list_own p w hul).mono ?_; rintro e w' ⟨A, c, rfl, h1, h2, h3⟩))
  go_ret
  exact ⟨A, c, rfl, h1, h2, h3⟩


theorem reads_other {w w' : World} {B n b : Nat} {A : Option Addr} {xs : List Value} (h : Reads w B 1 A n xs) (hA : ∀ ad, A = some ad → b < ad.block) (hg : w.grownBy w' (some b)) (hB : B ≤ w.heap.size) : Reads w' B 1 A n xs :=
  ⟨h.1, fun hn => by
    obtain ⟨ad, e, hb, hc⟩ := h.2 hn
    have hlt := hA ad e
    exact ⟨ad, e, hb, fun j u hu => (World.cell?_of_block (a := ad.add j) (hg.block (ad.add j).block (by rw [block_of_add]; omega) (by rw [block_of_add]; intro e; injection e; omega))).trans (hc j u hu)⟩⟩
theorem first_free (u : Nat) : ∀ n, (∀ j, j < n → u.testBit j = true) ∨ ∃ k, k < n ∧ u.testBit k = false ∧ ∀ j, j < k → u.testBit j = true
  | 0 => .inl fun j hj => by omega
  | n + 1 => by
    rcases first_free u n with h | ⟨k, h1, h2, h3⟩
    · by_cases hb : u.testBit n = true
      · refine .inl fun j hj => ?_
        rcases Nat.lt_or_ge j n with h4 | h4
        · exact h j h4
        · rw [show j = n by omega]; exact hb
      · exact .inr ⟨n, by omega, eq_false_of_ne_true hb, h⟩
    · exact .inr ⟨k, by omega, h2, h3⟩
/-- every place is used: some place is not pinned, or all are -/
theorem not_pinned {n u p m : Nat} (h : Tidy n u p m) (hne : p ≠ u) : ∃ q, q < n ∧ p.testBit q = false := by
  rcases first_free p n with h1 | ⟨k, h1, h2, _⟩
  · exact absurd (Nat.eq_of_testBit_eq fun j => by
      rcases Nat.lt_or_ge j n with hj | hj
      · rw [h1 j hj, h.sub j (h1 j hj)]
      · rw [h.u0 j hj, h.p0 j hj]) hne
  · exact ⟨k, h1, h2⟩
/-- where the hand stops -/
theorem stops {n u p m h : Nat} (ht : Tidy n u p m) (hne : p ≠ u) (h64 : n ≤ 64) (hm : m < 18446744073709551616) (hh : h < n) :
    ∃ i m2 h2, spin n p (2 * n) m h = some (i, m2, h2) ∧ i < n ∧ p.testBit i = false ∧ ((∃ q, q < n ∧ p.testBit q = false ∧ m.testBit q = false) → m.testBit i = false) := by
  obtain ⟨q, hq, hp⟩ := not_pinned ht hne
  obtain ⟨d, hd, he⟩ := ahead hh hq
  obtain ⟨⟨i, m2, h2⟩, hs⟩ := spin_some h64 d m h (2 * n) hm hh hd (by rw [he]; exact hp) (by omega)
  obtain ⟨hi, hpi⟩ := spin_spec (by omega) hs hh
  refine ⟨i, m2, h2, hs, hi, hpi, ?_⟩
  rintro ⟨q, hq, hp, hmq⟩
  obtain ⟨d, hd, he⟩ := ahead hh hq
  obtain ⟨r, hs2, _, h4⟩ := spin_dist h64 d m h (2 * n) hm hh hd (by rw [he]; exact hp) (by rw [he]; exact hmq) (by omega)
  rw [hs] at hs2
  injection hs2 with hs2
  subst hs2
  exact h4

end Go.Proofs.Ytoiabaienhchjaa
