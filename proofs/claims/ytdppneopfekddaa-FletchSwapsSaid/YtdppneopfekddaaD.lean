/- The walks of the four laws FletchSums, FletchPieces, FletchTurns, FletchSwaps: each returns true and writes nothing that was there. Conditions: none beyond that the arguments can be read. -/
import Derived.Test.YtdppneopfekddaaC
namespace Go.Proofs.Ytdppneopfekddaa
open Go.RowKit
set_option linter.unusedVariables false

def IsRow (k : IntKind) (w : World) (a : Option Addr) (len cap : Nat) (zs : List Int) : Prop :=
  (a = none ∧ len = 0 ∧ cap = 0 ∧ zs = []) ∨
  ∃ x, a = some x ∧ len ≤ cap ∧ cap ≤ maxLen ∧ zs.length = cap ∧ (∀ i, i < zs.length → w.cell? (x.add i) = some (.int k (zs.getD i 0))) ∧ ∀ n ∈ zs, (Lit.int k n).wf = true

theorem isrow_bounds {w : World} {a : Option Addr} {len cap : Nat} {z : List Int} (h : IsRow .u8 w a len cap z) : len ≤ cap ∧ cap ≤ maxLen ∧ z.length = cap := by
  rcases h with ⟨rfl, rfl, rfl, rfl⟩ | ⟨x, rfl, h1, h2, h3, _⟩
  · exact ⟨Nat.le_refl _, by unfold maxLen; omega, rfl⟩
  · exact ⟨h1, h2, h3⟩

theorem isrow_reads {w : World} {a : Option Addr} {len cap : Nat} {z : List Int} (h : IsRow .u8 w a len cap z) (m : Nat) (hm : m ≤ len) :
    Reads w w.heap.size 1 a m (vs (z.take m)) ∧ (z.take m).length = m ∧ Byte (z.take m) := by
  rcases h with ⟨rfl, rfl, rfl, rfl⟩ | ⟨x, rfl, h1, h2, h3, hc, hwf⟩
  · obtain rfl : m = 0 := by omega
    exact ⟨Reads.none_, rfl, by unfold Byte; simp⟩
  · have hl : (z.take m).length = m := by rw [List.length_take]; omega
    refine ⟨⟨by rw [vs_length, hl]; omega, fun hp => ?_⟩, hl, ?_⟩
    · refine ⟨x, rfl, ?_, fun j u hu => ?_⟩
      · have := World.block_lt_of_cell? w _ (hc 0 (by omega))
        rwa [block_of_add] at this
      · unfold vs at hu
        rw [List.getElem?_map, List.getElem?_take] at hu
        by_cases hj : j < m
        · rw [if_pos hj] at hu
          have hjz : j < z.length := by omega
          rw [List.getElem?_eq_getElem hjz] at hu
          simp only [Option.map_some, Option.some.injEq] at hu
          rw [hc j hjz, ← hu, List.getD_eq_getElem?_getD, List.getElem?_eq_getElem hjz]
          rfl
        · rw [if_neg hj] at hu
          simp at hu
    · intro y hy
      have := hwf y (List.mem_of_mem_take hy)
      simpa [Lit.wf, IntKind.min, IntKind.max, IntKind.signed, IntKind.bits] using this

theorem cut_any (A : Option Addr) (n c m : Nat) (w : World) (hc : n ≤ c) (hm : c ≤ maxLen) :
    Calls Try.prog 7 #[.slice A n c, .int .i64 m] w fun e w' => e = .returned (.slice A (min n m) c) ∧ w = w' := by
  by_cases h : m < n
  · rw [Nat.min_eq_right (by omega)]
    exact (cut_long A n c m w h hc hm).mono fun _ _ h => ⟨h.1, h.2.symm⟩
  · rw [Nat.min_eq_left (by omega)]
    exact (cut_short A n c m w (by omega) hc hm).mono fun _ _ h => ⟨h.1, h.2.symm⟩

def Copied (w : World) (n : Nat) (zs : List Int) (e : Ending) (w' : World) : Prop :=
  ∃ (A : Option Addr) (c : Nat), e = .returned (.slice A n c) ∧ w'.ownsRow w.heap.size 5 1 (.slice A n c) n (vs zs) ∧ Below w.heap.size w w'

theorem copy_any' (A : Option Addr) (n c : Nat) (zs : List Int) (w : World) (hr : Reads w w.heap.size 1 A n (vs zs)) (hn : n ≤ 1200) :
    Calls Try.prog 8 #[.slice A n c] w (Copied w n zs) := by
  refine (copy_any A n c zs w hr hn).mono ?_
  rintro e w' ⟨v, rfl, hown, hb⟩
  rcases hown.2 with ⟨rfl, rfl⟩ | ⟨g, cap, cur, rfl, _⟩
  · exact ⟨none, 0, rfl, hown, hb⟩
  · exact ⟨_, _, rfl, hown, hb⟩

set_option maxHeartbeats 400000 in
theorem sums_walk (a0 : Int) (a1 : Option Addr) (len1 cap1 : Nat) (z1 : List Int) (w : World) (w0 : (Lit.int .u32 a0).wf = true) (w1 : IsRow .u8 w a1 len1 cap1 z1) :
    Calls Try.prog 3 #[.int .u32 a0, .slice a1 len1 cap1] w fun e w' => e = .returned (.bool true) ∧ Below w.heap.size w w' := by
  have hs : 0 ≤ a0 ∧ a0 ≤ 4294967295 := by simpa [Lit.wf, IntKind.min, IntKind.max, IntKind.signed, IntKind.bits] using w0
  obtain ⟨hs0, hs1⟩ := hs
  have hs2 : a0 < 4294967296 := by omega
  obtain ⟨hlc, hcm, _⟩ := isrow_bounds w1
  obtain ⟨hr, hl, hb⟩ := isrow_reads w1 (min len1 400) (Nat.min_le_left _ _)
  have hn : min len1 400 ≤ 1200 := by omega
  generalize z1.take (min len1 400) = zs at hr hl hb
  have HC := cut_any a1 len1 cap1 400 w hlc hcm
  generalize min len1 400 = n at *
  have HL := Lib.hid hl
  clear hl w0 w1 hs1 hlc hcm
  have H1 := hide HC
  clear HC
  go_enter Try.func3, Try.ntmps3
  go_wp2_with fail
  refine (unhide H1).mono ?_
  rintro e w' ⟨rfl, rfl⟩
  clear H1
  go_wp2_with fail
  refine (copy_any' _ _ _ zs _ hr hn).mono ?_
  rintro e w2 ⟨A2, c2, rfl, hown2, hb2⟩
  have hr2 := Reads.of_own hown2
  have hr1 := (hr.below hb2).more hb2.size
  go_wp2_with fail
  refine (add_any _ _ _ _ zs _ hs0 hs2 hr2 HL.out hb hn).mono ?_
  rintro e w3 ⟨rfl, hb3⟩
  have hr2 := (hr2.below hb3).more hb3.size
  have hr1 := (hr1.below hb3).more hb3.size
  have hb3 := hb2.trans (hb3.mono hb2.size)
  clear hb2
  go_wp2_with fail
  refine (ref_any _ _ _ _ zs _ hs0 hs2 hr1 HL.out hb hn).mono ?_
  rintro e w4 ⟨rfl, rfl⟩
  go_wp2_with fail
  refine (sum_any _ _ _ zs _ hr2 HL.out hb hn).mono ?_
  rintro e w5 ⟨rfl, hb5⟩
  have hr2 := (hr2.below hb5).more hb5.size
  have hr1 := (hr1.below hb5).more hb5.size
  have hb5 := hb3.trans (hb5.mono hb3.size)
  clear hb3
  go_wp2_with fail
  refine (ref_any _ _ _ _ zs _ (by omega) (by omega) hr1 HL.out hb hn).mono ?_
  rintro e w6 ⟨rfl, rfl⟩
  go_wp2_with fail
  refine (same_any _ _ _ _ _ zs _ hr2 hr1 HL.out hn).mono ?_
  rintro e w7 ⟨rfl, hb7⟩
  have hb7 := hb5.trans (hb7.mono hb5.size)
  clear hb5
  go_wp2_with fail
  refine (lives_any _).mono ?_
  rintro e w8 ⟨rfl, hb8⟩
  have hb8 := hb7.trans (hb8.mono hb7.size)
  go_wp2_with fail
  go_ret
  exact ⟨rfl, hb8⟩

end Go.Proofs.Ytdppneopfekddaa
