/- Contracts over lists of integers: Within, Ints, SameInts, and the reference's since, right, First. Conditions: at most 2000 numbers; 1 to 9 nodes where 'right' is asked. -/
import Derived.Test.YtdgamdjfcamnlaaA
namespace Go.Proofs.Ytdgamdjfcamnlaa
open Go.RowKit
set_option linter.unusedVariables false

def vi (zs : List Int) : List Value := zs.map (Value.int .i64)
theorem vi_length (zs : List Int) : (vi zs).length = zs.length := by simp [vi]
theorem vi_get (zs : List Int) (k : Nat) (h : k < zs.length) : (vi zs)[k]? = some (.int .i64 zs[k]) := by simp [vi, h]
theorem vi_append (l m : List Int) : vi (l ++ m) = vi l ++ vi m := by simp [vi]
theorem one_vi (zs : List Int) : ∀ u ∈ vi zs, u.oneCell' = true := by
  intro u hu
  obtain ⟨z, _, rfl⟩ := List.mem_map.1 hu
  rfl
theorem reads_at {w : World} {B : Nat} {A : Option Addr} {n : Nat} {zs : List Int} (h : Reads w B 1 A n (vi zs)) (hn : zs.length = n) {k : Nat} (hk : k < n) :
    ∃ ad, A = some ad ∧ ad.block < B ∧ w.cell? (ad.add k) = some (.int .i64 (zs[k]'(by omega))) := by
  obtain ⟨ad, u, e, hb, hx, hc⟩ := h.at_ hk
  rw [vi_get zs k (by omega)] at hx
  injection hx with hx
  exact ⟨ad, e, hb, by rw [hc, hx]⟩
theorem reads_take {w : World} {B : Nat} {A : Option Addr} {n : Nat} {zs : List Int} (h : Reads w B 1 A n (vi zs)) (hn : zs.length = n) (k : Nat) (hk : k ≤ n) : Reads w B 1 A k (vi (zs.take k)) := by
  refine ⟨by rw [vi_length, List.length_take]; omega, fun hp => ?_⟩
  obtain ⟨ad, e, hb, hc⟩ := h.2 (by omega)
  refine ⟨ad, e, hb, fun j u hu => hc j u ?_⟩
  unfold vi at hu ⊢
  rw [List.getElem?_map, List.getElem?_take] at hu
  rw [List.getElem?_map]
  by_cases hj : j < k
  · rwa [if_pos hj] at hu
  · rw [if_neg hj] at hu; simp at hu
theorem reads_one (w : World) (u : Value) (t : TypeId) : Reads (w.alloc (.cells #[u] t)) (w.heap.size + 1) 1 (some ⟨w.heap.size, 0, none⟩) 1 [u] := by
  have hb := Blk.new w t #[u]
  refine ⟨rfl, fun _ => ⟨_, rfl, by simp, fun j v hv => ?_⟩⟩
  obtain rfl : j = 0 := by
    rcases Nat.eq_zero_or_pos j with h | h
    · exact h
    · rw [List.getElem?_eq_none (by simp; omega)] at hv; cases hv
  exact (hb.cell 0).trans hv
theorem ret_int {k : IntKind} {a b : Int} (h : a = b) : Ending.returned (.int k a) = .returned (.int k b) := by rw [h]
theorem ret_bool {a b : Bool} (h : a = b) : Ending.returned (.bool a) = .returned (.bool b) := by rw [h]

theorem within_any (x lo hi : Int) (w : World) :
    Calls Try.prog 13 #[.int .i64 x, .int .i64 lo, .int .i64 hi] w fun e w' => e = .returned (.int .i64 (if x < lo then lo else if hi < x then hi else x)) ∧ w = w' := by
  by_cases h1 : x < lo
  · rw [if_pos h1]
    go_enter Try.func13, Try.ntmps13
    go_wp2
    go_ret
    exact ⟨rfl, rfl⟩
  · rw [if_neg h1]
    by_cases h2 : hi < x
    · rw [if_pos h2]
      go_enter Try.func13, Try.ntmps13
      go_wp2
      go_ret
      exact ⟨rfl, rfl⟩
    · rw [if_neg h2]
      go_enter Try.func13, Try.ntmps13
      go_wp2
      go_ret
      exact ⟨rfl, rfl⟩

set_option maxHeartbeats 400000 in
theorem since_any (A : Option Addr) (n c : Nat) (l : List Int) (x y : Int) (w : World) (hr : Reads w w.heap.size 1 A n (vi l)) (hl : l.length = n) (hn : n ≤ 2000) :
    Calls Try.prog 21 #[.slice A n c, .int .i64 x, .int .i64 y] w fun e w' => e = .returned (.int .i64 (snc l x y : Int)) ∧ w = w' := by
  have HL := Lib.hid hl
  clear hl
  go_enter Try.func21, Try.ntmps21
  go_wp2
  go_loop [7, 8] (fun s i => ∃ k q : Nat, k ≤ n ∧ i = .int .i64 k ∧ s = .int .i64 q ∧ k + q ≤ n ∧ Hid (snc l x y = snc (l.take k) x y + q)) (fun _ i => (intOf i).toNat)
  case atStart => exact ⟨n, 0, Nat.le_refl _, rfl, rfl, by omega, show _ = _ by rw [List.take_of_length_le (by rw [HL.out]; exact Nat.le_refl _)]; rfl⟩
  case round =>
    obtain ⟨k, q, hk, rfl, rfl, hkq, HS⟩ := hrel
    rcases Nat.eq_zero_or_pos k with h0 | h0
    · subst h0
      go_wp2
      go_ret
      exact ⟨ret_int (by rw [HS.out, List.take_zero, snc_nil]; omega), rfl⟩
    · obtain ⟨j, rfl⟩ : ∃ j, k = j + 1 := ⟨k - 1, by omega⟩
      obtain ⟨ad, rfl, hadb, hc⟩ := reads_at hr HL.out (k := j) (by omega)
      have HT : Hid (snc (l.take (j + 1)) x y = if l[j]'(by have := HL.out; omega) = y then 0 else snc (l.take j) x y + (if l[j]'(by have := HL.out; omega) = x then 1 else 0)) := snc_take l j (by have := HL.out; omega) x y
      generalize l[j]'(by have := HL.out; omega) = z at hc HT
      by_cases hzy : z = y
      · have hb1 : (z != y) = false := by simp [hzy]
        have HE : Hid (snc l x y = q) := show _ = _ by have h1 := HS.out; have h2 := HT.out; rw [if_pos hzy] at h2; omega
        clear hzy HT HS
        go_wp2
        go_ret
        exact ⟨ret_int (by rw [HE.out]), rfl⟩
      · have hb1 : (z != y) = true := bne_iff_ne.2 hzy
        by_cases hzx : z = x
        · have hb2 : (z == x) = true := beq_iff_eq.2 hzx
          have HE : Hid (snc l x y = snc (l.take j) x y + (q + 1)) := show _ = _ by have h1 := HS.out; have h2 := HT.out; rw [if_neg hzy, if_pos hzx] at h2; omega
          clear hzy hzx HT HS
          go_wp2
          go_round
          case rel => exact ⟨j, q + 1, by omega, rfl, by go_num, by omega, HE⟩
          case measure => simp [intOf]
        · have hb2 : (z == x) = false := beq_eq_false_iff_ne.2 hzx
          have HE : Hid (snc l x y = snc (l.take j) x y + q) := show _ = _ by have h1 := HS.out; have h2 := HT.out; rw [if_neg hzy, if_neg hzx] at h2; omega
          clear hzy hzx HT HS
          go_wp2
          go_round
          case rel => exact ⟨j, q, by omega, rfl, rfl, by omega, HE⟩
          case measure => simp [intOf]

set_option maxHeartbeats 400000 in
theorem right_any (A : Option Addr) (N c n : Nat) (l : List Int) (rate : Int) (w : World) (hr : Reads w w.heap.size 1 A N (vi l)) (hl : l.length = N) (hN : N ≤ 2000) (hn : n ≤ 9) :
    Calls Try.prog 17 #[.slice A N c, .int .i64 (n : Int), .int .i64 rate] w fun e w' => e = .returned (.bool (rightB l n rate)) ∧ w = w' := by
  have HL := Lib.hid hl
  clear hl
  go_enter Try.func17, Try.ntmps17
  go_wp2
  go_loop [7, 8] (fun i _ => ∃ a : Nat, a ≤ n ∧ i = .int .i64 a ∧ Hid (∀ a', a' < a → ∀ b, b < n → a' ≠ b → (snc l (a' : Int) (b : Int) : Int) ≤ rate)) (fun i _ => n - (intOf i).toNat)
  case atStart => exact ⟨0, Nat.zero_le _, rfl, fun a' h => by omega⟩
  case round =>
    obtain ⟨a, ha, rfl, HA⟩ := hrel
    by_cases hlt : a < n
    · go_wp2
      go_loop [8] (fun j => ∃ b : Nat, b ≤ n ∧ j = .int .i64 b ∧ Hid (∀ b', b' < b → a ≠ b' → (snc l (a : Int) (b' : Int) : Int) ≤ rate)) (fun j => n - (intOf j).toNat)
      case atStart => exact ⟨0, Nat.zero_le _, rfl, fun a' h => by omega⟩
      case round =>
        obtain ⟨b, hb, rfl, HB⟩ := hrel
        by_cases hltb : b < n
        · by_cases hab : a = b
          · have hne : ((a : Int) != (b : Int)) = false := by simp; omega
            have HAB := Lib.hid hab
            clear hab
            go_wp2
            go_round
            case rel => exact ⟨b + 1, by omega, by go_num, fun b' h1 h2 => HB.out b' (by have := HAB.out; omega) h2⟩
            case measure => simp [intOf]; omega
          · have hne : ((a : Int) != (b : Int)) = true := by simp; omega
            by_cases hle : (snc l (a : Int) (b : Int) : Int) ≤ rate
            · have HX : Hid (∀ b', b' < b + 1 → a ≠ b' → (snc l (a : Int) (b' : Int) : Int) ≤ rate) := fun b' h1 h2 => by
                rcases Nat.lt_or_ge b' b with h | h
                · exact HB.out b' h h2
                · obtain rfl : b' = b := by omega
                  exact hle
              go_wp2_with (go_at_call 21; refine (since_any _ _ _ l _ _ _ hr HL.out hN).mono ?_; rintro e w' ⟨rfl, rfl⟩)
              go_round
              case rel => exact ⟨b + 1, by omega, by go_num, HX⟩
              case measure => simp [intOf]; omega
            · have hlt2 : rate < (snc l (a : Int) (b : Int) : Int) := by omega
              have HX : Hid (rightB l n rate = false) := show _ = _ by
                unfold rightB
                rw [decide_eq_false_iff_not]
                intro h
                exact hle (h a hlt b hltb hab)
              clear hle
              go_wp2_with (go_at_call 21; refine (since_any _ _ _ l _ _ _ hr HL.out hN).mono ?_; rintro e w' ⟨rfl, rfl⟩)
              go_ret
              exact ⟨ret_bool HX.out.symm, rfl⟩
        · have HX : Hid (∀ a', a' < a + 1 → ∀ b, b < n → a' ≠ b → (snc l (a' : Int) (b : Int) : Int) ≤ rate) := fun a' h1 b' h2 h3 => by
            rcases Nat.lt_or_ge a' a with h | h
            · exact HA.out a' h b' h2 h3
            · obtain rfl : a' = a := by omega
              exact HB.out b' (by omega) h3
          go_wp2
          go_round
          case rel => exact ⟨a + 1, by omega, by go_num, HX⟩
          case measure => simp [intOf]; omega
    · have HX : Hid (rightB l n rate = true) := show _ = _ by
        unfold rightB
        rw [decide_eq_true_iff]
        intro a' h1 b' h2 h3
        exact HA.out a' (by omega) b' h2 h3
      go_wp2
      go_ret
      exact ⟨ret_bool HX.out.symm, rfl⟩

end Go.Proofs.Ytdgamdjfcamnlaa
