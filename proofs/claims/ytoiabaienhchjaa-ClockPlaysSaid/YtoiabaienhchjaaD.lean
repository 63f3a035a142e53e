/- Contracts of the clock: list, Used, Pinned. -/
import Derived.Test.YtoiabaienhchjaaC
namespace Go.Proofs.Ytoiabaienhchjaa
open Go.RowKit
set_option linter.unusedVariables false

theorem int_info : (Try.prog.info? 3).map (fun i => (i.zero, i.size, i.bytes)) = some (some (.int .i64 0), 1, 8) := by kernel_rfl
def vi (zs : List Int) : List Value := zs.map (Value.int .i64)
theorem vi_append (l m : List Int) : vi (l ++ m) = vi l ++ vi m := by simp [vi]
theorem one_vi (zs : List Int) : ∀ u ∈ vi zs, u.oneCell' = true := by
  intro u hu
  obtain ⟨z, _, rfl⟩ := List.mem_map.1 hu
  rfl
theorem reads_one (w : World) (u : Value) (t : TypeId) : Reads (w.alloc (.cells #[u] t)) (w.heap.size + 1) 1 (some ⟨w.heap.size, 0, none⟩) 1 [u] := by
  have hb := Blk.new w t #[u]
  refine ⟨rfl, fun _ => ⟨_, rfl, by simp, fun j v hv => ?_⟩⟩
  obtain rfl : j = 0 := by
    rcases Nat.eq_zero_or_pos j with h | h
    · exact h
    · rw [List.getElem?_eq_none (by simp; omega)] at hv; cases hv
  exact (hb.cell 0).trans hv
/-- a list in memory of the call's own -/
def Lst (w : World) (zs : List Int) (e : Ending) (w' : World) : Prop :=
  ∃ (A : Option Addr) (c : Nat), e = .returned (.slice A zs.length c) ∧ Reads w' w'.heap.size 1 A zs.length (vi zs) ∧ Below w.heap.size w w'
theorem out_of {w w' : World} {zs : List Int} {v : Value} (h : w'.ownsRow w.heap.size 3 1 v zs.length (vi zs)) (hb : Below w.heap.size w w') : Lst w zs (.returned v) w' := by
  have h2 := h
  rcases h.2 with ⟨rfl, h0⟩ | ⟨g, cap, cur, rfl, _, _, hc, hm, _⟩
  · rw [h0] at h2
    exact ⟨none, 0, by rw [h0], by rw [h0]; exact Reads.of_own h2, hb⟩
  · exact ⟨_, _, rfl, Reads.of_own h2, hb⟩
/-- the places below `n` that are in the set -/
def mem (s n : Nat) : List Int := ((List.range n).filter (fun j => s.testBit j)).map (fun j : Nat => (j : Int))
theorem mem_succ (s k : Nat) : mem s (k + 1) = if s.testBit k then mem s k ++ [(k : Int)] else mem s k := by
  unfold mem
  rw [List.range_succ, List.filter_append, List.map_append]
  by_cases h : s.testBit k <;> simp [h]
theorem mem_len (s : Nat) : ∀ k, (mem s k).length ≤ k
  | 0 => by simp [mem]
  | k + 1 => by
    have := mem_len s k
    rw [mem_succ]
    split <;> simp <;> omega

set_option maxHeartbeats 400000 in
theorem list_any (s : Nat) (w : World) (hs : s < 18446744073709551616) : Calls Try.prog 26 #[.int .u64 (s : Int)] w (Lst w (mem s 64)) := by
  obtain ⟨i0, hi0, hz0, hz1, hz2⟩ := info_parts int_info
  have HI := Lib.hid hi0
  have HZ0 := Lib.hid hz0
  have HZ1 := Lib.hid hz1
  have HZ2 := Lib.hid hz2
  clear hi0 hz0 hz1 hz2
  go_enter Try.func26, Try.ntmps26
  go_wp2
  go_loopw [3, 5] (fun v i wr => ∃ k : Nat, k ≤ 64 ∧ i = .int .i64 k ∧ wr.ownsRow w.heap.size 3 1 v (mem s k).length (vi (mem s k)) ∧ Below w.heap.size w wr) (fun _ i _ => 64 - (intOf i).toNat)
  case atStart => exact ⟨0, Nat.zero_le _, rfl, ⟨by simp [vi, mem], .inl ⟨rfl, rfl⟩⟩, Below.refl _ _⟩
  case round =>
    obtain ⟨k, hk, rfl, hown, hbel⟩ := hrel
    have hml := mem_len s k
    have HS := Lib.hid (mem_succ s k)
    by_cases hlt : k < 64
    · cases ht : s.testBit k
      · have HT := Lib.hid ht
        go_wp2_with (go_at_call 27; refine (has_at s k _ hs hlt).mono ?_; rw [HT.out]; rintro e w' ⟨rfl, rfl⟩)
        go_roundw
        case rel =>
          have e : mem s (k + 1) = mem s k := by rw [HS.out, HT.out]; rfl
          exact ⟨k + 1, by omega, by go_num, by rw [e]; exact hown, hbel⟩
        case measure => simp [intOf]; omega
      · have HT := Lib.hid ht
        go_wp2_with (first
          | (go_at_call 27; refine (has_at s k _ hs hlt).mono ?_; rw [HT.out]; rintro e w' ⟨rfl, rfl⟩)
          | (at_builtin
             refine wpList_append_any _ rfl (.tmp 11) (.tmp 13) _ rfl w.heap.size 3 i0 _ 1 8 Try.underlying32 HI.out HZ0.out HZ1.out HZ2.out rfl (by omega) u3 _ _ rfl
               (hown.alloc _) (wr.heap.size + 1) _ 1 _ [.int .i64 k] rfl (reads_one wr _ _) (by simp [Value.oneCell']) (by simp only [maxLen]; omega) (by omega) (by simp; have := hbel.size; omega) ?_
             intro v3 w3 hown3 hg3 hat3))
        go_roundw
        case rel =>
          have e : mem s (k + 1) = mem s k ++ [(k : Int)] := by rw [HS.out, HT.out]; rfl
          refine ⟨k + 1, by omega, by go_num, ?_, (hbel.alloc hbel.size _).grown hg3 (by simp; have := hbel.size; omega) (fun q hq => (hown.lt q hq).1)⟩
          rw [e, vi_append, List.length_append]
          exact hown3
        case measure => simp [intOf]; omega
    · have HX : Hid (mem s k = mem s 64) := show _ = _ by rw [show k = 64 by omega]
      go_wp2
      go_ret
      refine out_of ?_ hbel
      rw [← HX.out]
      exact hown

theorem used_nobody (a : Option Addr) (w : World) (h : Nobody w a) : Calls Try.prog 9 #[.pointer a] w fun e w' => e = .returned (.slice none 0 0) ∧ w = w' := by
  go_enter Try.func9, Try.ntmps9
  go_wp2_with (go_at_call 25; refine (ok_nobody a w h).mono ?_; rintro e w' ⟨rfl, rfl⟩)
  go_ret
  exact ⟨rfl, rfl⟩
theorem pinned_nobody (a : Option Addr) (w : World) (h : Nobody w a) : Calls Try.prog 10 #[.pointer a] w fun e w' => e = .returned (.slice none 0 0) ∧ w = w' := by
  go_enter Try.func10, Try.ntmps10
  go_wp2_with (go_at_call 25; refine (ok_nobody a w h).mono ?_; rintro e w' ⟨rfl, rfl⟩)
  go_ret
  exact ⟨rfl, rfl⟩
theorem next_nobody (a : Option Addr) (w : World) (h : Nobody w a) : Calls Try.prog 11 #[.pointer a] w fun e w' => e = .returned (.tuple #[.int .i64 (-1), .int .i64 1]) ∧ w = w' := by
  go_enter Try.func11, Try.ntmps11
  go_wp2_with (go_at_call 25; refine (ok_nobody a w h).mono ?_; rintro e w' ⟨rfl, rfl⟩)
  go_ret2
  exact ⟨rfl, rfl⟩
theorem used_ring (b n u p m h : Nat) (w : World) (hr : Ring w b n u p m h) : Calls Try.prog 9 #[.pointer (some ⟨b, 0, none⟩)] w (Lst w (mem u 64)) := by
  have HR := Lib.hid hr
  have hc := hr.u_
  have hul := hr.ul
  clear hr
  go_enter Try.func9, Try.ntmps9
  go_wp2_with (first
    | (go_at_call 25; refine (ok_ring b n u p m h w HR.out).mono ?_; rintro e w' ⟨rfl, rfl⟩)
    | (go_at_call 26; refine (list_any u w hul).mono ?_; rintro e w' ⟨A, c, rfl, h1, h2⟩))
  go_ret
  exact ⟨A, c, rfl, h1, h2⟩
theorem pinned_ring (b n u p m h : Nat) (w : World) (hr : Ring w b n u p m h) : Calls Try.prog 10 #[.pointer (some ⟨b, 0, none⟩)] w (Lst w (mem p 64)) := by
  have HR := Lib.hid hr
  have hc := hr.p_
  have hul := hr.pl
  clear hr
  go_enter Try.func10, Try.ntmps10
  go_wp2_with (first
    | (go_at_call 25; refine (ok_ring b n u p m h w HR.out).mono ?_; rintro e w' ⟨rfl, rfl⟩)
    | (go_at_call 26; refine (list_any p w hul).mono ?_; rintro e w' ⟨A, c, rfl, h1, h2⟩))
  go_ret
  exact ⟨A, c, rfl, h1, h2⟩

end Go.Proofs.Ytoiabaienhchjaa
