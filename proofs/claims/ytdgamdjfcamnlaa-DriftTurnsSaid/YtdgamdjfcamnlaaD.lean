/- Contracts of Ints, SameInts, and of both Keeps. Conditions: at most 2000 numbers. -/
import Derived.Test.YtdgamdjfcamnlaaC
namespace Go.Proofs.Ytdgamdjfcamnlaa
open Go.RowKit
set_option linter.unusedVariables false

theorem int_info : (Try.prog.info? 3).map (fun i => (i.zero, i.size, i.bytes)) = some (some (.int .i64 0), 1, 8) := by kernel_rfl

/-- a list in memory of the call's own -/
def Out (w : World) (zs : List Int) (e : Ending) (w' : World) : Prop :=
  ∃ (A : Option Addr) (c : Nat), e = .returned (.slice A zs.length c) ∧ zs.length ≤ c ∧ c ≤ maxLen ∧ w'.ownsRow w.heap.size 3 1 (.slice A zs.length c) zs.length (vi zs) ∧ Below w.heap.size w w'
theorem out_of {w w' : World} {zs : List Int} {v : Value} (h : w'.ownsRow w.heap.size 3 1 v zs.length (vi zs)) (hb : Below w.heap.size w w') : Out w zs (.returned v) w' := by
  have h2 := h
  rcases h.2 with ⟨rfl, h0⟩ | ⟨g, cap, cur, rfl, _, _, hc, hm, _⟩
  · rw [h0] at h2
    refine ⟨none, 0, by rw [h0], by omega, by unfold maxLen; omega, by rw [h0]; exact h2, hb⟩
  · exact ⟨_, _, rfl, hc, hm, h2, hb⟩

set_option maxHeartbeats 400000 in
theorem ints_any (A : Option Addr) (N c n : Nat) (l : List Int) (w : World) (hr : Reads w w.heap.size 1 A N (vi l)) (hl : l.length = N) (hn : n ≤ 100) :
    Calls Try.prog 7 #[.slice A N c, .int .i64 (n : Int)] w (Out w (l.take n)) := by
  obtain ⟨i0, hi0, hz0, hz1, hz2⟩ := info_parts int_info
  have HI := Lib.hid hi0
  have HZ0 := Lib.hid hz0
  have HZ1 := Lib.hid hz1
  have HZ2 := Lib.hid hz2
  have HL := Lib.hid hl
  clear hi0 hz0 hz1 hz2 hl
  go_enter Try.func7, Try.ntmps7
  go_wp2
  go_loopw [5, 6] (fun v i wr => ∃ k : Nat, k ≤ N ∧ k ≤ n ∧ i = .int .i64 k ∧ wr.ownsRow w.heap.size 3 1 v k (vi (l.take k)) ∧ Below w.heap.size w wr) (fun _ i _ => n - (intOf i).toNat)
  case atStart => exact ⟨0, Nat.zero_le _, Nat.zero_le _, rfl, ⟨by simp [vi], .inl ⟨rfl, rfl⟩⟩, Below.refl _ _⟩
  case round =>
    obtain ⟨k, hk, hkn, rfl, hown, hbel⟩ := hrel
    by_cases hlt : k < N
    · by_cases hlt2 : k < n
      · obtain ⟨ad, rfl, hadb, hc⟩ := reads_at (hr.below hbel) HL.out hlt
        have HT : Hid (l.take (k + 1) = l.take k ++ [l[k]'(by have := HL.out; omega)]) := List.take_succ_eq_append_getElem (by have := HL.out; omega)
        generalize l[k]'(by have := HL.out; omega) = z at hc HT
        go_wp2_with (at_builtin
                     refine wpList_append_any _ rfl (.tmp 18) (.tmp 23) _ rfl w.heap.size 3 i0 _ 1 8 Try.underlying22 HI.out HZ0.out HZ1.out HZ2.out rfl (by omega) u5 k _ rfl
                       (hown.alloc _) (wr.heap.size + 1) _ 1 _ [.int .i64 z] rfl (reads_one wr _ _) (by simp [Value.oneCell']) (by simp only [maxLen]; omega) (by omega) (by simp; have := hbel.size; omega) ?_
                     intro v3 w3 hown3 hg3 hat3)
        go_roundw
        case rel =>
          refine ⟨k + 1, by omega, by omega, by go_num, ?_, (hbel.alloc hbel.size _).grown hg3 (by simp; have := hbel.size; omega) (fun q hq => (hown.lt q hq).1)⟩
          rw [HT.out, vi_append]
          exact hown3
        case measure => simp [intOf]; omega
      · have hkn2 : k = n := by omega
        have HX : Hid ((l.take n).length = k ∧ vi (l.take k) = vi (l.take n)) := ⟨by rw [List.length_take]; have := HL.out; omega, by rw [hkn2]⟩
        clear hkn2
        go_wp2
        go_ret
        refine out_of ?_ hbel
        rw [HX.out.1, ← HX.out.2]
        exact hown
    · have HX : Hid ((l.take n).length = k ∧ vi (l.take k) = vi (l.take n)) := by
        have h1 := HL.out
        exact ⟨by rw [List.length_take]; omega, by rw [List.take_of_length_le (by omega), List.take_of_length_le (by omega)]⟩
      go_wp2
      go_ret
      refine out_of ?_ hbel
      rw [HX.out.1, ← HX.out.2]
      exact hown

set_option maxHeartbeats 400000 in
theorem same_any (A1 A2 : Option Addr) (n c1 c2 : Nat) (zs : List Int) (w : World) (hr1 : Reads w w.heap.size 1 A1 n (vi zs)) (hr2 : Reads w w.heap.size 1 A2 n (vi zs)) (hl : zs.length = n) (hn : n ≤ 2000) :
    Calls Try.prog 15 #[.slice A1 n c1, .slice A2 n c2] w fun e w' => e = .returned (.bool true) ∧ Below w.heap.size w w' := by
  have HL := Lib.hid hl
  clear hl
  go_enter Try.func15, Try.ntmps15
  go_wp2
  go_loopw [5] (fun i wr => ∃ k : Nat, k ≤ n ∧ i = .int .i64 k ∧ Below w.heap.size w wr) (fun i _ => n - (intOf i).toNat)
  case atStart => exact ⟨0, Nat.zero_le _, rfl, Below.refl _ _⟩
  case round =>
    obtain ⟨k, hk, rfl, hbel⟩ := hrel
    by_cases hlt : k < n
    · obtain ⟨a1, rfl, hb1, hc1⟩ := reads_at (hr1.below hbel) HL.out hlt
      obtain ⟨a2, rfl, hb2, hc2⟩ := reads_at (hr2.below hbel) HL.out hlt
      generalize zs[k]'(by have := HL.out; omega) = z at hc1 hc2
      have hk0 : (0 : Int) ≤ (k : Int) := by omega
      have hkn : (k : Int) < (n : Int) := by omega
      go_wp2
      go_quiet (fail)
      go_wp2
      go_roundw
      case rel => exact ⟨k + 1, by omega, by go_num, below_drewN hbel _⟩
      case measure => simp [intOf]; omega
    · go_wp2
      go_ret
      exact ⟨rfl, hbel⟩

/-- what is kept of what may tick -/
def keepI (l : List Int) (n rate : Int) : List Int := if mayB n rate = true then keepL l n.toNat rate else []

set_option maxHeartbeats 400000 in
theorem keep_any (A : Option Addr) (N c : Nat) (l : List Int) (n rate : Int) (w : World) (hr : Reads w w.heap.size 1 A N (vi l)) (hl : l.length = N) (hN : N ≤ 100) :
    Calls Try.prog 14 #[.slice A N c, .int .i64 n, .int .i64 rate] w (Out w (keepI l n rate)) := by
  cases hm : mayB n rate
  · have HF : Hid (keepI l n rate = []) := show _ = _ by unfold keepI; rw [hm]; rfl
    have HM := Lib.hid hm
    clear hm
    go_enter Try.func14, Try.ntmps14
    go_wp2_with (go_at_call 18; refine (may_any _ _ _).mono ?_; rw [HM.out]; rintro e w' ⟨rfl, rfl⟩)
    go_ret
    refine out_of ?_ (Below.refl _ _)
    rw [HF.out]
    exact ⟨rfl, .inl ⟨rfl, rfl⟩⟩
  · obtain ⟨m, rfl, hm1, hm9, hr1, hr16⟩ := may_nat hm
    have HF : Hid (keepI l m rate = keepL l m rate) := show _ = _ by unfold keepI; rw [hm]; rfl
    obtain ⟨i0, hi0, hz0, hz1, hz2⟩ := info_parts int_info
    have HI := Lib.hid hi0
    have HZ0 := Lib.hid hz0
    have HZ1 := Lib.hid hz1
    have HZ2 := Lib.hid hz2
    have HM := Lib.hid hm
    have HL := Lib.hid hl
    clear hi0 hz0 hz1 hz2 hl hm
    have q1 := zero37
    have q2 := z83_ne
    have q3 := z83_size
    go_enter Try.func14, Try.ntmps14
    go_wp2_with (go_at_call 18; refine (may_any _ _ _).mono ?_; rw [HM.out]; rintro e w' ⟨rfl, rfl⟩)
    clear q1 q2 q3
    go_loopw [7, 10, 21] (fun v _ i wr => ∃ k : Nat, k ≤ N ∧ i = .int .i64 k ∧ wr.ownsRow w.heap.size 3 1 v (keepL (l.take k) m rate).length (vi (keepL (l.take k) m rate)) ∧ v.ownBlock ≠ some w.heap.size ∧
      Gau wr w.heap.size m rate (mOf (keepL (l.take k) m rate)) ∧ Below w.heap.size w wr) (fun _ _ i _ => N - (intOf i).toNat)
    case atStart => exact ⟨0, Nat.zero_le _, rfl, ⟨by rfl, .inl ⟨rfl, rfl⟩⟩, by simp [Value.ownBlock], newG_gau _ _ _ _ (Blk.new w 37 (newG m rate)) hm9, (Below.refl _ _).alloc (Nat.le_refl _) _⟩
    case round =>
      obtain ⟨k, hk, rfl, hown, hne, hG, hbel⟩ := hrel
      by_cases hlt : k < N
      · obtain ⟨ad, rfl, hadb, hc⟩ := reads_at (hr.below hbel) HL.out hlt
        have HT : Hid (keepL (l.take (k + 1)) m rate = keepStep m rate (keepL (l.take k) m rate) (l[k]'(by have := HL.out; omega))) := show _ = _ by
          rw [List.take_succ_eq_append_getElem (by have := HL.out; omega), keepL_snoc]
        have hlen := keepL_len (l.take k) m rate
        rw [List.length_take] at hlen
        have hlen2 : (keepL (l.take k) m rate).length ≤ k := by omega
        clear hlen
        have hall := AllR_right _ m rate (by omega) (keepL_all (l.take k) m rate)
        generalize l[k]'(by have := HL.out; omega) = z at hc HT
        generalize keepL (l.take k) m rate = out at *
        have hcan := can_iff out m rate z (by omega) hall
        cases hrt : rightB (out ++ [z]) m rate
        · have HS : Hid (keepStep m rate out z = out) := show _ = _ by unfold keepStep; rw [hrt]; rfl
          have HR : Hid (canB (mOf out) m rate z = false) := hcan.trans hrt
          clear hrt hcan hall
          go_wp2_with (go_at_call 20; refine (refuses_any w.heap.size m rate _ z _ hG hm9 hr16).mono ?_; rw [HR.out]; rintro e w1 ⟨rfl, hG1, ho1⟩)
          have hG2 : Gau w1 w.heap.size m rate (mOf out) := by simpa using hG1
          go_roundw
          case rel =>
            refine ⟨k + 1, by omega, by go_num, ?_, hne, ?_, hbel.trans (below_of_only ho1 (Nat.le_of_lt hG.lt))⟩
            · rw [HT.out, HS.out]
              exact hown.kept ho1 (.inr hne)
            · rw [HT.out, HS.out]
              exact hG2
          case measure => simp [intOf]; omega
        · have HS : Hid (keepStep m rate out z = out ++ [z]) := show _ = _ by unfold keepStep; rw [hrt]; rfl
          have HR : Hid (canB (mOf out) m rate z = true) := hcan.trans hrt
          clear hrt hcan hall
          go_wp2_with (first
            | (go_at_call 20; refine (refuses_any w.heap.size m rate _ z _ hG hm9 hr16).mono ?_; rw [HR.out]; rintro e w1 ⟨rfl, hG1, ho1⟩; have hown1 := hown.kept ho1 (.inr hne))
            | (at_builtin
               refine wpList_append_any _ rfl (.tmp 29) (.tmp 31) _ rfl w.heap.size 3 i0 _ 1 8 Try.underlying22 HI.out HZ0.out HZ1.out HZ2.out rfl (by omega) u7 out.length _ rfl
                 (hown1.alloc _) (w1.heap.size + 1) _ 1 _ [.int .i64 z] rfl (reads_one w1 _ _) (by simp [Value.oneCell']) (by simp only [maxLen]; omega) (by omega) (by simp; have := hbel.size; have := ho1.size; omega) ?_
               intro v3 w3 hown3 hg3 hat3))
          have hG2 : Gau w1 w.heap.size m rate (tickF (mOf out) m z) := by simpa using hG1
          have hG3 : Gau w1 w.heap.size m rate (mOf (out ++ [z])) := hG2.congr (fun a ha b hb _ => tick_eq _ _ _ _ _ ha hb)
          have hlt1 := hG3.lt
          go_roundw
          case rel =>
            refine ⟨k + 1, by omega, by go_num, ?_, ?_, ?_, ?_⟩
            · rw [HT.out, HS.out, vi_append, List.length_append]
              exact hown3
            · intro h
              rcases hat3 with h3 | h3
              · exact hne (h3.symm.trans h)
              · rw [h] at h3
                injection h3 with h3
                simp at h3
                omega
            · rw [HT.out, HS.out]
              have hG4 : Gau (w1.alloc (.cells #[.int .i64 z] 3)) w.heap.size m rate (mOf (out ++ [z])) := by
                obtain ⟨cs, hbl, rest⟩ := hG3
                exact ⟨cs, hbl.alloc _, rest⟩
              exact hG4.grown hg3 (fun h => hne h.symm)
            · refine ((hbel.trans (below_of_only ho1 (Nat.le_of_lt hG.lt))).alloc (by have := hbel.size; have := ho1.size; omega) _).grown hg3 (by simp; have := hbel.size; have := ho1.size; omega) (fun q hq => (hown.lt q hq).1)
          case measure => simp [intOf]; omega
      · have HX : Hid (keepL (l.take k) m rate = keepI l m rate) := show _ = _ by rw [HF.out, List.take_of_length_le (by have := HL.out; omega)]
        go_wp2
        go_ret
        refine out_of ?_ hbel
        rw [← HX.out]
        exact hown

theorem own_or (v : Value) : v.ownBlock = none ∨ v.ownBlock ≠ (Value.slice none 0 0).ownBlock := by
  by_cases h : v.ownBlock = none
  · exact .inl h
  · exact .inr h
theorem slice_form {w : World} {base : Nat} {e : TypeId} {size n : Nat} {v : Value} {xs : List Value} (h : w.ownsRow base e size v n xs) : ∃ A c, v = .slice A n c := by
  rcases h.2 with ⟨h1, h0⟩ | ⟨g, cap, cur, h1, _⟩
  · exact ⟨none, 0, by rw [h1, h0]⟩
  · exact ⟨_, _, h1⟩

theorem step_own {w w2 w3 wr : World} {z : Int} {v2 v3 : Value} {out : List Int} {A7 : Option Addr} {c7 : Nat}
    (hown : wr.ownsRow w.heap.size 3 1 (.slice A7 out.length c7) out.length (vi out)) (hb2 : Below w.heap.size w w2)
    (hown2 : w2.ownsRow w.heap.size 3 1 v2 (0 + out.length) ([] ++ vi out)) (hat2 : v2.ownBlock = (Value.slice none 0 0).ownBlock ∨ v2.ownBlock = some wr.heap.size)
    (hownb : w2.ownsRow w.heap.size 3 1 (.slice A7 out.length c7) out.length (vi out))
    (hown3 : w3.ownsRow w.heap.size 3 1 v3 (0 + out.length + 1) ([] ++ vi out ++ [.int .i64 z])) (hg3 : (w2.alloc (.cells #[.int .i64 z] 3)).grownBy w3 v2.ownBlock) :
    Below w.heap.size w w3 ∧ w3.ownsRow w.heap.size 3 1 (.slice A7 out.length c7) out.length (vi out) ∧ w3.ownsRow w.heap.size 3 1 v3 (out.length + 1) (vi (out ++ [z])) := by
  refine ⟨(hb2.alloc hb2.size _).grown hg3 (by simp; have := hb2.size; omega) (fun q hq => (hown2.lt q hq).1), ?_, ?_⟩
  · refine (hownb.alloc _).kept hg3 ?_
    rcases hat2 with h2 | h2
    · rw [h2]; exact own_or _
    · rw [h2]
      refine .inr fun h => ?_
      have := (hown.lt _ h).2
      omega
  · rw [vi_append, show vi [z] = [.int .i64 z] from rfl]
    simpa using hown3

set_option maxHeartbeats 1000000 in
theorem refk_any (A : Option Addr) (N c : Nat) (l : List Int) (n rate : Int) (w : World) (hr : Reads w w.heap.size 1 A N (vi l)) (hl : l.length = N) (hN : N ≤ 100) :
    Calls Try.prog 16 #[.slice A N c, .int .i64 n, .int .i64 rate] w (Out w (keepI l n rate)) := by
  cases hm : mayB n rate
  · have HF : Hid (keepI l n rate = []) := show _ = _ by unfold keepI; rw [hm]; rfl
    have HM := Lib.hid hm
    clear hm hl
    rcases Nat.eq_zero_or_pos N with h0 | h0
    · subst h0
      go_enter Try.func16, Try.ntmps16
      go_wp2
      go_loop [7, 8] (fun v i => v = .slice none 0 0 ∧ i = .int .i64 0) (fun _ _ => 0)
      case atStart => exact ⟨rfl, rfl⟩
      case round =>
        obtain ⟨rfl, rfl⟩ := hrel
        go_wp2
        go_ret
        refine out_of ?_ (Below.refl _ _)
        rw [HF.out]
        exact ⟨rfl, .inl ⟨rfl, rfl⟩⟩
    · go_enter Try.func16, Try.ntmps16
      go_wp2
      go_loop [7, 8] (fun v i => v = .slice none 0 0 ∧ i = .int .i64 0) (fun _ _ => 0)
      case atStart => exact ⟨rfl, rfl⟩
      case round =>
        obtain ⟨rfl, rfl⟩ := hrel
        go_wp2_with (go_at_call 11; refine (May_any _ _ _).mono ?_; rw [HM.out]; rintro e w' ⟨rfl, rfl⟩)
        go_ret
        refine out_of ?_ (Below.refl _ _)
        rw [HF.out]
        exact ⟨rfl, .inl ⟨rfl, rfl⟩⟩
  · obtain ⟨m, rfl, hm1, hm9, hr1, hr16⟩ := may_nat hm
    have HF : Hid (keepI l m rate = keepL l m rate) := show _ = _ by unfold keepI; rw [hm]; rfl
    obtain ⟨i0, hi0, hz0, hz1, hz2⟩ := info_parts int_info
    have HI := Lib.hid hi0
    have HZ0 := Lib.hid hz0
    have HZ1 := Lib.hid hz1
    have HZ2 := Lib.hid hz2
    have HM := Lib.hid hm
    have HL := Lib.hid hl
    clear hi0 hz0 hz1 hz2 hl hm
    go_enter Try.func16, Try.ntmps16
    go_wp2
    go_loopw [7, 8, 9] (fun v i _ wr => ∃ k : Nat, k ≤ N ∧ i = .int .i64 k ∧ wr.ownsRow w.heap.size 3 1 v (keepL (l.take k) m rate).length (vi (keepL (l.take k) m rate)) ∧ Below w.heap.size w wr) (fun _ i _ _ => N - (intOf i).toNat)
    case atStart => exact ⟨0, Nat.zero_le _, rfl, ⟨by rfl, .inl ⟨rfl, rfl⟩⟩, Below.refl _ _⟩
    case round =>
      obtain ⟨k, hk, rfl, hown, hbel⟩ := hrel
      by_cases hlt : k < N
      · obtain ⟨ad, hA, hadb, hc⟩ := reads_at hr HL.out hlt
        subst hA
        have HT : Hid (keepL (l.take (k + 1)) m rate = keepStep m rate (keepL (l.take k) m rate) (l[k]'(by have := HL.out; omega))) := show _ = _ by
          rw [List.take_succ_eq_append_getElem (by have := HL.out; omega), keepL_snoc]
        have hlen := keepL_len (l.take k) m rate
        rw [List.length_take] at hlen
        have hlen2 : (keepL (l.take k) m rate).length ≤ k := by omega
        clear hlen
        generalize l[k]'(by have := HL.out; omega) = z at hc HT
        generalize keepL (l.take k) m rate = out at *
        obtain ⟨A7, c7, rfl⟩ := slice_form hown
        have hro := Reads.of_own hown
        go_wp2_with (first
          | (go_at_call 11; refine (May_any _ _ _).mono ?_; rw [HM.out]; rintro e w' ⟨rfl, rfl⟩)
          | (at_builtin
             refine wpList_append_any _ rfl (.tmp 21) (.tmp 22) _ rfl w.heap.size 3 i0 _ 1 8 Try.underlying22 HI.out HZ0.out HZ1.out HZ2.out rfl (by omega) (.slice none 0 0) 0 [] rfl
               ⟨by simp, .inl ⟨rfl, rfl⟩⟩ wr.heap.size _ _ _ (vi out) rfl hro (one_vi _) (by simp only [maxLen]; omega) (by omega) hbel.size ?_
             intro v2 w2 hown2 hg2 hat2
             have hb2 : Below w.heap.size w w2 := hbel.grown hg2 hbel.size (by simp [Value.ownBlock])
             have hc2 : w2.cell? (ad.add k) = some (.int .i64 z) := (hb2.cell (p := ad.add k) (by rw [block_of_add]; exact hadb)).trans hc
             have hownb := hown.kept hg2 (own_or _)
             clear hc hro)
          | (at_builtin
             refine wpList_append_any _ rfl (.tmp 24) (.tmp 29) _ rfl w.heap.size 3 i0 _ 1 8 Try.underlying22 HI.out HZ0.out HZ1.out HZ2.out rfl (by omega) v2 (0 + out.length) _ rfl
               (hown2.alloc _) (w2.heap.size + 1) _ 1 _ [.int .i64 z] rfl (reads_one w2 _ _) (by simp [Value.oneCell']) (by simp only [maxLen]; omega) (by omega) (by simp; have := hb2.size; omega) ?_
             intro v3 w3 hown3 hg3 hat3
             obtain ⟨hb3, hown7, hown4⟩ := step_own hown hb2 hown2 hat2 hownb hown3 hg3
             obtain ⟨A3, c3, hv3⟩ := slice_form hown4
             subst hv3
             have hr3 := Reads.of_own hown4
             have hl3 : Hid ((out ++ [z]).length = out.length + 1) := show _ = _ by simp
             clear hown3 hownb hown2 hg2 hat2 hg3 hat3 hc2)
          | (go_at_call 17; refine (right_any _ _ _ m (out ++ [z]) rate _ hr3 hl3.out (by omega) hm9).mono ?_; rintro e w4 ⟨rfl, rfl⟩))
        all_goals
          first
          | (have hrt : rightB (out ++ [z]) m rate = true := by assumption
             have HS : Hid (keepStep m rate out z = out ++ [z]) := show _ = _ by unfold keepStep; rw [hrt]; rfl
             clear hrt
             go_roundw
             case rel =>
               refine ⟨k + 1, by omega, by go_num, ?_, hb3⟩
               rw [HT.out, HS.out, List.length_append]
               exact hown4
             case measure => simp [intOf]; omega)
          | (have hrt : rightB (out ++ [z]) m rate = false := by assumption
             have HS : Hid (keepStep m rate out z = out) := show _ = _ by unfold keepStep; rw [hrt]; rfl
             clear hrt
             go_roundw
             case rel =>
               refine ⟨k + 1, by omega, by go_num, ?_, hb3⟩
               rw [HT.out, HS.out]
               exact hown7
             case measure => simp [intOf]; omega)
      · have HX : Hid (keepL (l.take k) m rate = keepI l m rate) := show _ = _ by rw [HF.out, List.take_of_length_le (by have := HL.out; omega)]
        go_wp2
        go_ret
        refine out_of ?_ hbel
        rw [← HX.out]
        exact hown

end Go.Proofs.Ytdgamdjfcamnlaa
