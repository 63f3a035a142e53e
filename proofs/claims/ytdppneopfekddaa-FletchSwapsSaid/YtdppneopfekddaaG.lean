/- The walks of FletchTurns and FletchSwaps: each returns true and writes nothing that was there. Conditions: none beyond that the arguments can be read. -/
import Derived.Test.YtdppneopfekddaaE
import Derived.Deep.RegionHeld3
import Derived.BigRegion
namespace Go.Proofs.Ytdppneopfekddaa
open Go.RowKit
set_option linter.unusedVariables false

theorem within_k (x : Int) (m : Nat) : ∃ k : Nat, k ≤ m ∧ ∀ w : World,
    Calls Try.prog 14 #[.int .i64 x, .int .i64 0, .int .i64 (m : Int)] w fun e w' => e = .returned (.int .i64 (k : Int)) ∧ w = w' := by
  by_cases h1 : x < 0
  · exact ⟨0, by omega, fun w => by have := within_any x 0 m w; rw [if_pos h1] at this; exact this⟩
  · by_cases h2 : (m : Int) < x
    · exact ⟨m, by omega, fun w => by have := within_any x 0 m w; rw [if_neg h1, if_pos h2] at this; exact this⟩
    · refine ⟨x.toNat, by omega, fun w => ?_⟩
      have := within_any x 0 m w
      rw [if_neg h1, if_neg h2] at this
      rw [show ((x.toNat : Nat) : Int) = x from by omega]
      exact this

theorem xor_other (z by_ : Int) (h0 : 0 ≤ z) (h1 : z ≤ 255) (b0 : 0 < by_) (b1 : by_ ≤ 255) :
    0 ≤ bits .xor .u8 z by_ ∧ bits .xor .u8 z by_ ≤ 255 ∧ z ≠ bits .xor .u8 z by_ := by
  rw [u8_xor z by_ h0 (by omega) (by omega) (by omega)]
  have hlt : z.toNat ^^^ by_.toNat < 2 ^ 8 := Nat.xor_lt_two_pow (by omega) (by omega)
  refine ⟨by omega, by omega, fun e => ?_⟩
  have e2 : z.toNat ^^^ by_.toNat = z.toNat := by omega
  have e3 : by_.toNat = 0 := by
    have := congrArg (fun t => z.toNat ^^^ t) e2
    simp only [← Nat.xor_assoc, Nat.xor_self, Nat.zero_xor] at this
    exact this
  omega

theorem fsum_set (zs : List Int) (k : Nat) (hk : k < zs.length) (y : Int) (hB : Byte zs) (hy : 0 ≤ y ∧ y ≤ 255) (hne : zs[k] ≠ y) : fsum 0 zs ≠ fsum 0 (zs.set k y) := by
  have e1 : zs = zs.take k ++ zs[k] :: zs.drop (k + 1) := by simp
  rw [List.set_eq_take_append_cons_drop, if_pos hk]
  conv => lhs; rw [e1]
  exact turns _ _ _ _ (hB _ (List.getElem_mem hk)) hy hne

theorem byte_set {zs : List Int} {k : Nat} {y : Int} (hB : Byte zs) (hy : 0 ≤ y ∧ y ≤ 255) : Byte (zs.set k y) := by
  intro z hz
  rcases List.mem_or_eq_of_mem_set hz with h | rfl
  · exact hB z h
  · exact hy
theorem vs_set (zs : List Int) (k : Nat) (y : Int) : vs (zs.set k y) = (vs zs).set k (.int .u8 y) := by simp [vs, List.map_set]

set_option maxHeartbeats 1000000 in
theorem turns_walk (a0 : Option Addr) (len0 cap0 : Nat) (z0 : List Int) (a1 a2 : Int) (w : World) (w0 : IsRow .u8 w a0 len0 cap0 z0) (w1 : (Lit.int .i64 a1).wf = true) (w2 : (Lit.int .u8 a2).wf = true) :
    Calls Try.prog 5 #[.slice a0 len0 cap0, .int .i64 a1, .int .u8 a2] w fun e w' => e = .returned (.bool true) ∧ Below w.heap.size w w' := by
  obtain ⟨hlc0, hcm0, _⟩ := isrow_bounds w0
  obtain ⟨hr0, hl0, hb0⟩ := isrow_reads w0 (min len0 400) (Nat.min_le_left _ _)
  have h2 : 0 ≤ a2 ∧ a2 ≤ 255 := by simpa [Lit.wf, IntKind.min, IntKind.max, IntKind.signed, IntKind.bits] using w2
  obtain ⟨h20, h21⟩ := h2
  have hn0 : min len0 400 ≤ 400 := by omega
  generalize z0.take (min len0 400) = zs at hr0 hl0 hb0
  have HC0 := hide (cut_any a0 len0 cap0 400 w hlc0 hcm0)
  generalize min len0 400 = n at *
  clear w0 w1 w2 hlc0 hcm0
  by_cases hn : n = 0
  · subst hn
    have hne : (((0 : Nat) : Int) == 0) = true := rfl
    have HL0 := Lib.hid hl0
    clear hl0
    go_enter Try.func5, Try.ntmps5
    go_wp2_with fail
    refine (unhide HC0).mono ?_
    rintro e w' ⟨rfl, rfl⟩
    clear HC0
    go_wp2_with fail
    refine (lives_any _).mono ?_
    rintro e w9 ⟨rfl, hb9⟩
    go_wp2_with fail
    go_ret
    exact ⟨rfl, hb9⟩
  · have hne : ((n : Int) == 0) = false := by simp; omega
    by_cases hby : a2 = 0
    · subst hby
      have HL0 := Lib.hid hl0
      clear hl0 hn
      go_enter Try.func5, Try.ntmps5
      go_wp2_with fail
      refine (unhide HC0).mono ?_
      rintro e w' ⟨rfl, rfl⟩
      clear HC0
      go_wp2_with fail
      refine (lives_any _).mono ?_
      rintro e w9 ⟨rfl, hb9⟩
      go_wp2_with fail
      go_ret
      exact ⟨rfl, hb9⟩
    · have hby' : (a2 == 0) = false := by simp; omega
      obtain ⟨k, hk, HW⟩ := within_k a1 (n - 1)
      rw [show (((n - 1 : Nat) : Nat) : Int) = (n : Int) - 1 from by omega] at HW
      have hkn : k < n := by omega
      have hk0 : (0 : Int) ≤ (k : Int) := by omega
      have hk1 : (k : Int) < (n : Int) := by omega
      have hk2 : k < zs.length := by omega
      have hz := hb0 _ (List.getElem_mem hk2)
      obtain ⟨y0, y1, y2⟩ := xor_other zs[k] a2 hz.1 hz.2 (by omega) h21
      have hfs := fsum_set zs k hk2 _ hb0 ⟨y0, y1⟩ y2
      have hbs := byte_set (k := k) hb0 ⟨y0, y1⟩
      have hvs := vs_set zs k (bits .xor .u8 zs[k] a2)
      have hget := vs_get zs k hk2
      generalize zs[k] = z at *
      generalize hy : bits .xor .u8 z a2 = y at *
      have hfs1 : (fsum 0 zs != fsum 0 (zs.set k y)) = true := bne_iff_ne.2 hfs
      have hlen : (zs.set k y).length = n := by rw [List.length_set]; exact hl0
      have HL0 := Lib.hid hl0
      have HL1 := Lib.hid hlen
      have HV := Lib.hid hvs
      have HG := Lib.hid hget
      have HW' := hide HW
      clear hl0 hlen hvs hget HW hn hby y2 hfs hz hk2
      go_enter Try.func5, Try.ntmps5
      go_wp2_with fail
      refine (unhide HC0).mono ?_
      rintro e w' ⟨rfl, rfl⟩
      clear HC0
      go_wp2_with fail
      refine (copy_any' _ _ _ zs _ hr0 (by omega)).mono ?_
      rintro e w2 ⟨A2, c2, rfl, hown2, hbl2⟩
      obtain ⟨g, cap, hv, hg1, hg2⟩ := hown2.form (by omega)
      injection hv with hA _ hcap
      subst hA
      have hcell : w2.cell? ⟨g, k, none⟩ = some (.int .u8 z) := (hown2.cellAt k (by omega)).trans HG.out
      have hfz := hown2.frozenAt k
      go_wp2_with fail
      refine (unhide HW' _).mono ?_
      rintro e w' ⟨rfl, rfl⟩
      clear HW'
      go_wp2_with fail
      have hr3 := hr0.below hbl2
      have hr3 := hr3.setCell (p := ⟨g, k, none⟩) hg1 (.int .u8 y)
      have hbl3 := hbl2.setCell (p := ⟨g, k, none⟩) hg1 (.int .u8 y)
      have hown3 := (hown2.stored k (.int .u8 y)).1
      rw [← HV.out] at hown3
      have hrc := Reads.of_own hown3
      have hr3 := hr3.more hbl3.size
      clear hown3 hown2 hcell hfz
      refine (sum_any _ _ _ zs _ hr3 HL0.out hb0 (by omega)).mono ?_
      rintro e w5 ⟨rfl, hb5⟩
      have hrc := (hrc.below hb5).more hb5.size
      have hb5 := hbl3.trans (hb5.mono hbl3.size)
      go_wp2_with fail
      refine (sum_any _ _ _ (zs.set k y) _ hrc HL1.out hbs (by omega)).mono ?_
      rintro e w6 ⟨rfl, hb6⟩
      have hb6 := hb5.trans (hb6.mono hb5.size)
      go_wp2_with fail
      refine (lives_any _).mono ?_
      rintro e w9 ⟨rfl, hb9⟩
      have hb9 := hb6.trans (hb9.mono hb6.size)
      go_wp2_with fail
      go_ret
      exact ⟨rfl, hb9⟩

end Go.Proofs.Ytdppneopfekddaa
