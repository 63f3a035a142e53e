/- The walk of FletchPieces: it returns true and writes nothing that was there. Conditions: none beyond that the arguments can be read. -/
import Derived.Test.YtdppneopfekddaaD
namespace Go.Proofs.Ytdppneopfekddaa
open Go.RowKit
set_option linter.unusedVariables false

theorem one_vs (zs : List Int) : ∀ u ∈ vs zs, u.oneCell' = true := by
  intro u hu
  obtain ⟨z, _, rfl⟩ := List.mem_map.1 hu
  rfl
theorem vs_append (l m : List Int) : vs (l ++ m) = vs l ++ vs m := by simp [vs]
theorem byte_append {l m : List Int} (h : Byte l) (k : Byte m) : Byte (l ++ m) := by
  intro z hz
  rcases List.mem_append.1 hz with hz | hz
  · exact h z hz
  · exact k z hz

set_option maxHeartbeats 1000000 in
theorem pieces_walk (a0 : Option Addr) (len0 cap0 : Nat) (z0 : List Int) (a1 : Option Addr) (len1 cap1 : Nat) (z1 : List Int) (a2 : Option Addr) (len2 cap2 : Nat) (z2 : List Int) (w : World)
    (w0 : IsRow .u8 w a0 len0 cap0 z0) (w1 : IsRow .u8 w a1 len1 cap1 z1) (w2 : IsRow .u8 w a2 len2 cap2 z2) :
    Calls Try.prog 4 #[.slice a0 len0 cap0, .slice a1 len1 cap1, .slice a2 len2 cap2] w fun e w' => e = .returned (.bool true) ∧ Below w.heap.size w w' := by
  obtain ⟨hlc0, hcm0, _⟩ := isrow_bounds w0
  obtain ⟨hlc1, hcm1, _⟩ := isrow_bounds w1
  obtain ⟨hlc2, hcm2, _⟩ := isrow_bounds w2
  obtain ⟨hr0, hl0, hb0⟩ := isrow_reads w0 (min len0 200) (Nat.min_le_left _ _)
  obtain ⟨hr1, hl1, hb1⟩ := isrow_reads w1 (min len1 200) (Nat.min_le_left _ _)
  obtain ⟨hr2, hl2, hb2⟩ := isrow_reads w2 (min len2 200) (Nat.min_le_left _ _)
  have hn0 : min len0 200 ≤ 200 := by omega
  have hn1 : min len1 200 ≤ 200 := by omega
  have hn2 : min len2 200 ≤ 200 := by omega
  generalize z0.take (min len0 200) = xs at hr0 hl0 hb0
  generalize z1.take (min len1 200) = ys at hr1 hl1 hb1
  generalize z2.take (min len2 200) = zs at hr2 hl2 hb2
  have HC0 := hide (cut_any a0 len0 cap0 200 w hlc0 hcm0)
  have HC1 := hide (cut_any a1 len1 cap1 200 w hlc1 hcm1)
  have HC2 := hide (cut_any a2 len2 cap2 200 w hlc2 hcm2)
  generalize min len0 200 = n0 at *
  generalize min len1 200 = n1 at *
  generalize min len2 200 = n2 at *
  have hL : (xs ++ ys ++ zs).length = n0 + n1 + n2 := by simp; omega
  have HL := Lib.hid hL
  have HL0 := Lib.hid hl0
  have HL1 := Lib.hid hl1
  have HL2 := Lib.hid hl2
  clear hl0 hl1 hl2 hL w0 w1 w2 hlc0 hlc1 hlc2 hcm0 hcm1 hcm2
  obtain ⟨i0, hi0, hz0, hz1, hz2⟩ := info_parts byte_info
  have hI := Lib.hid hi0
  have hZ0 := Lib.hid hz0
  have hZ1 := Lib.hid hz1
  have hZ2 := Lib.hid hz2
  clear hi0 hz0 hz1 hz2
  go_enter Try.func4, Try.ntmps4
  go_wp2_with fail
  refine (unhide HC0).mono ?_
  rintro e w' ⟨rfl, rfl⟩
  clear HC0
  go_wp2_with fail
  refine (unhide HC1).mono ?_
  rintro e w' ⟨rfl, rfl⟩
  clear HC1
  go_wp2_with fail
  refine (unhide HC2).mono ?_
  rintro e w' ⟨rfl, rfl⟩
  clear HC2
  go_wp2_with fail
  refine (copy_any' _ _ _ xs _ hr0 (by omega)).mono ?_
  rintro e w2 ⟨A2, c2, rfl, hown2, hbl2⟩
  have hq0 := hr0
  have hq1 := hr1
  have hq2 := hr2
  have hr0 := (hr0.below hbl2).more hbl2.size
  have hr1 := (hr1.below hbl2).more hbl2.size
  have hr2 := (hr2.below hbl2).more hbl2.size
  go_wp2_with (first
    | (at_builtin
       refine wpList_append_any _ rfl (.tmp 15) (.tmp 16) _ rfl w.heap.size 5 i0 _ 1 1 Try.underlying23 hI.out hZ0.out hZ1.out hZ2.out rfl (by omega) (.slice A2 n0 c2) n0 (vs xs) rfl
         hown2 w2.heap.size _ n1 _ (vs ys) rfl hr1 (one_vs _) (by simp only [maxLen]; omega) (by omega) hbl2.size ?_
       intro v3 w3 hown3 hg3 hat3
       have hbl3 : Below w.heap.size w w3 := hbl2.grown hg3 hbl2.size (fun k hk => (hown2.lt k hk).1)
       have hr0 := (hq0.below hbl3).more hbl3.size
       have hr1 := (hq1.below hbl3).more hbl3.size
       have hr2 := (hq2.below hbl3).more hbl3.size)
    | (at_builtin
       refine wpList_append_any _ rfl (.tmp 17) (.tmp 18) _ rfl w.heap.size 5 i0 _ 1 1 Try.underlying23 hI.out hZ0.out hZ1.out hZ2.out rfl (by omega) v3 (n0 + n1) (vs xs ++ vs ys) rfl
         hown3 w3.heap.size _ n2 _ (vs zs) rfl hr2 (one_vs _) (by simp only [maxLen]; omega) (by omega) hbl3.size ?_
       intro v4 w4 hown4 hg4 hat4
       have hbl4 : Below w.heap.size w w4 := hbl3.grown hg4 hbl3.size (fun k hk => (hown3.lt k hk).1)
       have hr0 := (hq0.below hbl4).more hbl4.size
       have hr1 := (hq1.below hbl4).more hbl4.size
       have hr2 := (hq2.below hbl4).more hbl4.size
       obtain ⟨A4, c4, hv4⟩ : ∃ A c, v4 = .slice A (n0 + n1 + n2) c := by
         rcases hown4.2 with ⟨h, h0⟩ | ⟨g, cap, cur, h, _⟩
         · exact ⟨none, 0, by rw [h, h0]⟩
         · exact ⟨_, _, h⟩
       subst hv4
       have hr4 : Reads w4 w4.heap.size 1 A4 (n0 + n1 + n2) (vs (xs ++ ys ++ zs)) := by
         rw [vs_append, vs_append]
         exact Reads.of_own hown4
       clear hown4 hown3 hown2 hg4 hg3 hat4 hat3 hbl3 hbl2))
  refine (sum_any _ _ _ xs _ hr0 HL0.out hb0 (by omega)).mono ?_
  rintro e w5 ⟨rfl, hb5⟩
  have hr1 := (hr1.below hb5).more hb5.size
  have hr2 := (hr2.below hb5).more hb5.size
  have hr4 := (hr4.below hb5).more hb5.size
  have hb5 := hbl4.trans (hb5.mono hbl4.size)
  obtain ⟨e0, e1⟩ := fsum_in 0 xs
  go_wp2_with fail
  refine (add_any _ _ _ _ ys _ e0 e1 hr1 HL1.out hb1 (by omega)).mono ?_
  rintro e w6 ⟨rfl, hb6⟩
  have hr2 := (hr2.below hb6).more hb6.size
  have hr4 := (hr4.below hb6).more hb6.size
  have hb6 := hb5.trans (hb6.mono hb5.size)
  obtain ⟨e0, e1⟩ := fsum_in (fsum 0 xs) ys
  go_wp2_with fail
  refine (add_any _ _ _ _ zs _ e0 e1 hr2 HL2.out hb2 (by omega)).mono ?_
  rintro e w7 ⟨rfl, hb7⟩
  have hr4 := (hr4.below hb7).more hb7.size
  have hb7 := hb6.trans (hb7.mono hb6.size)
  go_wp2_with fail
  refine (sum_any _ _ _ (xs ++ ys ++ zs) _ hr4 HL.out (byte_append (byte_append hb0 hb1) hb2) (by omega)).mono ?_
  rintro e w8 ⟨rfl, hb8⟩
  have hb8 := hb7.trans (hb8.mono hb7.size)
  rw [fsum_append, fsum_append]
  go_wp2_with fail
  refine (lives_any _).mono ?_
  rintro e w9 ⟨rfl, hb9⟩
  have hb9 := hb8.trans (hb9.mono hb8.size)
  go_wp2_with fail
  go_ret
  exact ⟨rfl, hb9⟩

end Go.Proofs.Ytdppneopfekddaa
