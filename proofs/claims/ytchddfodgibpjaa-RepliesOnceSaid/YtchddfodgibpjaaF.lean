/- The walk of RepliesOnce: it returns true and writes nothing that was there. Conditions: none beyond that the arguments can be read. -/
import Derived.Test.YtchddfodgibpjaaE
namespace Go.Proofs.Ytchddfodgibpjaa
open Go.RowKit
set_option linter.unusedVariables false

def IsRow (k : IntKind) (w : World) (a : Option Addr) (len cap : Nat) (zs : List Int) : Prop :=
  (a = none ∧ len = 0 ∧ cap = 0 ∧ zs = []) ∨
  ∃ x, a = some x ∧ len ≤ cap ∧ cap ≤ maxLen ∧ zs.length = cap ∧ (∀ i, i < zs.length → w.cell? (x.add i) = some (.int k (zs.getD i 0))) ∧ ∀ n ∈ zs, (Lit.int k n).wf = true

theorem isrow_at {w : World} {a : Option Addr} {len cap : Nat} {z : List Int} (h : IsRow .u64 w a len cap z) {k : Nat} (hk : k < len) :
    ∃ ad q, a = some ad ∧ ad.block < w.heap.size ∧ w.cell? (ad.add k) = some (.int .u64 q) ∧ 0 ≤ q ∧ (0 < q → IntKind.u64.wrap (q - 1) = q - 1) := by
  rcases h with ⟨rfl, rfl, rfl, rfl⟩ | ⟨x, rfl, h1, h2, h3, hc, hwf⟩
  · omega
  · have hkz : k < z.length := by omega
    have hq := hwf (z.getD k 0) (by rw [List.getD_eq_getElem?_getD, List.getElem?_eq_getElem hkz]; exact List.getElem_mem hkz)
    have hb : 0 ≤ z.getD k 0 ∧ z.getD k 0 ≤ 18446744073709551615 := by simpa [Lit.wf, IntKind.min, IntKind.max, IntKind.signed, IntKind.bits] using hq
    refine ⟨x, z.getD k 0, rfl, ?_, hc k hkz, hb.1, fun h0 => ?_⟩
    · have := World.block_lt_of_cell? w _ (hc k hkz)
      rwa [block_of_add] at this
    · rw [IntKind.wrap_u64]
      omega
theorem isrow_len {w : World} {a : Option Addr} {len cap : Nat} {z : List Int} (h : IsRow .u64 w a len cap z) : len ≤ maxLen := by
  rcases h with ⟨rfl, rfl, rfl, rfl⟩ | ⟨x, rfl, h1, h2, _⟩
  · unfold maxLen; omega
  · exact Nat.le_trans h1 h2

set_option maxRecDepth 100000 in
set_option maxHeartbeats 8000000 in
theorem once_walk (a0 a1 : Int) (a2 : Option Addr) (len2 cap2 : Nat) (z2 : List Int) (w : World) (w0 : (Lit.int .i64 a0).wf = true) (w1 : (Lit.int .u64 a1).wf = true) (w2 : IsRow .u64 w a2 len2 cap2 z2) :
    Calls Try.prog 3 #[.int .i64 a0, .int .u64 a1, .slice a2 len2 cap2] w fun e w' => e = .returned (.bool true) ∧ Below w.heap.size w w' := by
  have hs0 : 0 ≤ a1 := by
    have : 0 ≤ a1 ∧ a1 ≤ 18446744073709551615 := by simpa [Lit.wf, IntKind.min, IntKind.max, IntKind.signed, IntKind.bits] using w1
    exact this.1
  have hlen := isrow_len w2
  have HR : Hid (∀ k, k < len2 → ∃ ad q, a2 = some ad ∧ ad.block < w.heap.size ∧ w.cell? (ad.add k) = some (.int .u64 q) ∧ 0 ≤ q ∧ (0 < q → IntKind.u64.wrap (q - 1) = q - 1)) := fun k hk => isrow_at w2 hk
  clear w0 w1 w2
  by_cases hok : 0 ≤ a0 ∧ a0 < 8 ∧ 1 ≤ a1 ∧ a1 ≤ 1099511627775
  · obtain ⟨h1, h2, h3, h4⟩ := hok
    obtain ⟨c, rfl⟩ := Int.eq_ofNat_of_zero_le h1
    have hc : c < 8 := by omega
    have hss : (a1 == 0) = false := by rw [beq_eq_false_iff_ne]; omega
    have hth := there_new w c hc
    unfold maxLen at hlen
    go_enter Try.func3, Try.ntmps3
    go_wp2_with (first
      | (go_at_call 5; refine (new_any _).mono ?_; rintro e w' ⟨rfl, rfl⟩)
      | (go_at_call 6; refine (open_ok w.heap.size c a1 _ hc h3 h4 hth (by simp)).mono ?_; rintro e w3 ⟨rfl, hrow, ho3⟩
         have hb3 := ((Below.refl w.heap.size w).alloc (Nat.le_refl _) (.cells z160 47)).trans (below_of_only ho3 (by simp))))
    go_loopw [8, 9, 10, 11, 12] (fun d i _ _ _ wr => ∃ (k D : Nat) (rl : List Value), k ≤ len2 ∧ k ≤ 100 ∧ D ≤ k ∧ i = .int .i64 k ∧ d = .int .u64 D ∧ CRow wr w.heap.size c a1 D rl ∧ (rl = zmsg ∧ D = 0 ∨ Msg rl c a1 D) ∧ Below w.heap.size w wr)
      (fun _ i _ _ _ _ => 100 - (intOf i).toNat)
    case atStart => exact ⟨0, 0, zmsg, Nat.zero_le _, Nat.zero_le _, Nat.zero_le _, rfl, rfl, hrow, .inl ⟨rfl, rfl⟩, hb3⟩
    case round =>
      obtain ⟨k, D, rl, hk, hk100, hDk, rfl, rfl, hrow, hrl, hbel⟩ := hrel
      by_cases hlt : k < len2
      · by_cases hlt2 : k < 100
        · obtain ⟨ad, q, rfl, hadb, hcell0, hq0, hqw⟩ := HR.out k hlt
          have hcell := (hbel.cell (p := ad.add k) (by rw [block_of_add]; exact hadb)).trans hcell0
          have hm := mk_msg c a1 q k
          have HM := Lib.hid hm
          have HRL := Lib.hid hrl
          have HQW := Lib.hid hqw
          have hgr := hrow.2.2
          clear hm hrl hqw
          have hrl2 : Hid (Msg rl c a1 D ∨ rl = zmsg) := HRL.out.elim (fun h => .inr h.1) .inl
          by_cases hA : 0 < q ∧ q - 1 = (D : Int)
          · have HE : Hid (askR D q rl = .tuple #[.int .i64 1, .agg zmsg.toArray]) := show _ = _ by unfold askR; rw [if_pos hA]
            have HA := Lib.hid hA
            have t1 : (q != (D : Int) + 1) = false := by simp; omega
            have HT : Hid (q = ((D + 1 : Nat) : Int)) := show _ = _ by omega
            clear hA
            go_wp2_with (first
              | (refine wpList_store_new rfl 33 (.tmp 10) (.tmp 38) rfl wr.heap.size rfl (mk c a1 q k).toArray zmsg.toArray 33 rfl rfl (mk_size _ _ _ _) rfl (mk_one _ _ _ _) ?_
                 intro X bX hX hXs
                 have hrowX := hrow.below hX hgr
                 have hbX := hbel.trans (hX.mono hbel.size))
              | (refine wpList_load_row rfl 33 (.tmp 10) rfl wr.heap.size rfl 33 (mk c a1 q k).toArray (0, 0) _ bX Try.underlying33 rfl (mk_size _ _ _ _) ?_)
              | (go_at_call 8; refine (ask_msg w.heap.size c (mk c a1 q k) rl a1 q D _ hc hss HM.out hrl2.out hrowX hq0 HQW.out).mono ?_; rw [HE.out]; rintro e w4 ⟨rfl, hb4⟩
                 have hrow4 := hrowX.below hb4 hrowX.2.2
                 have b4 := bX.below hb4 bX.lt
                 have hbw4 := hbX.trans (hb4.mono hbX.size)
                 clear hrowX)
              | (refine wpList_store_new rfl 33 (.tmp 12) (.tmp 44) rfl w4.heap.size rfl zmsg.toArray zmsg.toArray 33 rfl rfl zmsg_size rfl zmsg_one ?_
                 intro X5 b5 hX5 _
                 have hrow5 := hrow4.below hX5 hrow4.2.2
                 have b10 := b4.below hX5 b4.lt
                 have hbw5 := hbw4.trans (hX5.mono hbw4.size)
                 have hcell5 := (hbw5.cell (p := ad.add k) (by rw [block_of_add]; exact hadb)).trans hcell0
                 clear hrow4 b4)
              | (refine wpList_load_want 33 (.tmp 10) rfl wr.heap.size rfl 33 (mk c a1 q k).toArray (0, 0) _ b10 Try.underlying33 rfl (mk_size _ _ _ _) (by rfl) ?_)
              | (go_at_call 9; refine (save_fresh w.heap.size c (mk c a1 q k) rl a1 q D _ hc hss HM.out hrl2.out hrow5 hq0 HQW.out HA.out).mono ?_; rintro e w6 ⟨rfl, hrow6, ho6⟩
                 have hbw6 := hbw5.trans (below_of_only ho6 (Nat.le_of_lt hrow5.2.2))))
            go_roundw
            case rel =>
              refine ⟨k + 1, D + 1, mk c a1 q k, by omega, by omega, by omega, by go_num, by go_num, ?_, .inr ?_, hbw6⟩
              · rw [← HT.out]; exact hrow6
              · rw [← HT.out]; exact HM.out
            case measure => simp [intOf]; omega
          · by_cases hB : 0 < q ∧ q = (D : Int)
            · have HE : Hid (askR D q rl = .tuple #[.int .i64 2, .agg rl.toArray]) := show _ = _ by unfold askR; rw [if_neg hA, if_pos hB]
              have hmr : Msg rl c a1 D := by
                rcases HRL.out with h | h
                · omega
                · exact h
              have HZ : Hid ((Try.prog.info? 33).map (·.size) = some rl.toArray.size ∧ zmsg.toArray.size = rl.toArray.size) :=
                ⟨by rw [size33, List.size_toArray, hmr.1], by rw [List.size_toArray, List.size_toArray, hmr.1]; rfl⟩
              have HZ1 := all_oneCell_toArray hmr.2.2.2.2.2
              have HMR := Lib.hid hmr
              have t1 : (q != (D : Int)) = false := by simp; omega
              have t2 : ((D : Int) == 0) = false := by simp; omega
              have t3 : ((D : Int) != (D : Int)) = false := by simp
              clear hA hB hmr
              go_wp2_with (first
                | (refine wpList_store_new rfl 33 (.tmp 10) (.tmp 38) rfl wr.heap.size rfl (mk c a1 q k).toArray zmsg.toArray 33 rfl rfl (mk_size _ _ _ _) rfl (mk_one _ _ _ _) ?_
                   intro X bX hX hXs
                   have hrowX := hrow.below hX hgr
                   have hbX := hbel.trans (hX.mono hbel.size))
                | (refine wpList_load_row rfl 33 (.tmp 10) rfl wr.heap.size rfl 33 (mk c a1 q k).toArray (0, 0) _ bX Try.underlying33 rfl (mk_size _ _ _ _) ?_)
                | (go_at_call 8; refine (ask_msg w.heap.size c (mk c a1 q k) rl a1 q D _ hc hss HM.out hrl2.out hrowX hq0 HQW.out).mono ?_; rw [HE.out]; rintro e w4 ⟨rfl, hb4⟩
                   have hrow4 := hrowX.below hb4 hrowX.2.2
                   have b4 := bX.below hb4 bX.lt
                   have hbw4 := hbX.trans (hb4.mono hbX.size)
                   clear hrowX)
                | (refine wpList_store_new rfl 33 (.tmp 12) (.tmp 44) rfl w4.heap.size rfl rl.toArray zmsg.toArray 33 rfl rfl HZ.out.1 HZ.out.2 HZ1 ?_
                   intro X5 b5 hX5 _
                   have hrow5 := hrow4.below hX5 hrow4.2.2
                   have b10 := b4.below hX5 b4.lt
                   have hbw5 := hbw4.trans (hX5.mono hbw4.size)
                   have hcell5 := (hbw5.cell (p := ad.add k) (by rw [block_of_add]; exact hadb)).trans hcell0
                   have c3 : X5.cell? ⟨w4.heap.size, 3, none⟩ = some (.int .u64 (D : Int)) := (b5.cell 3).trans (arr HMR.out.2.2.2.1)
                   clear hrow4 b4))
              go_roundw
              case rel => exact ⟨k + 1, D, rl, by omega, by omega, by omega, by go_num, rfl, hrow5, HRL.out, hbw5⟩
              case measure => simp [intOf]; omega
            · have HE : Hid (askR D q rl = .tuple #[.int .i64 3, .agg zmsg.toArray]) := show _ = _ by unfold askR; rw [if_neg hA, if_neg hB]
              have HA := Lib.hid hA
              have HB := Lib.hid hB
              have t1 : (q == (D : Int) + 1) = false := by rw [beq_eq_false_iff_ne]; omega
              by_cases hqd : q = (D : Int)
              · have t2 : (q == (D : Int)) = true := beq_iff_eq.2 hqd
                have t3 : ¬ (0 : Int) < (D : Int) := by omega
                clear hA hB hqd
                go_wp2_with (first
                  | (refine wpList_store_new rfl 33 (.tmp 10) (.tmp 38) rfl wr.heap.size rfl (mk c a1 q k).toArray zmsg.toArray 33 rfl rfl (mk_size _ _ _ _) rfl (mk_one _ _ _ _) ?_
                     intro X bX hX hXs
                     have hrowX := hrow.below hX hgr
                     have hbX := hbel.trans (hX.mono hbel.size))
                  | (refine wpList_load_row rfl 33 (.tmp 10) rfl wr.heap.size rfl 33 (mk c a1 q k).toArray (0, 0) _ bX Try.underlying33 rfl (mk_size _ _ _ _) ?_)
                  | (go_at_call 8; refine (ask_msg w.heap.size c (mk c a1 q k) rl a1 q D _ hc hss HM.out hrl2.out hrowX hq0 HQW.out).mono ?_; rw [HE.out]; rintro e w4 ⟨rfl, hb4⟩
                     have hrow4 := hrowX.below hb4 hrowX.2.2
                     have b4 := bX.below hb4 bX.lt
                     have hbw4 := hbX.trans (hb4.mono hbX.size)
                     clear hrowX)
                  | (refine wpList_store_new rfl 33 (.tmp 12) (.tmp 44) rfl w4.heap.size rfl zmsg.toArray zmsg.toArray 33 rfl rfl zmsg_size rfl zmsg_one ?_
                     intro X5 b5 hX5 _
                     have hrow5 := hrow4.below hX5 hrow4.2.2
                     have b10 := b4.below hX5 b4.lt
                     have hbw5 := hbw4.trans (hX5.mono hbw4.size)
                     have hcell5 := (hbw5.cell (p := ad.add k) (by rw [block_of_add]; exact hadb)).trans hcell0
                     clear hrow4 b4)
                  | (refine wpList_load_want 33 (.tmp 10) rfl wr.heap.size rfl 33 (mk c a1 q k).toArray (0, 0) _ b10 Try.underlying33 rfl (mk_size _ _ _ _) (by rfl) ?_)
                  | (go_at_call 9; refine (save_old w.heap.size c (mk c a1 q k) rl a1 q D _ hc hss HM.out hrl2.out hrow5 hq0 HQW.out HA.out HB.out).mono ?_; rintro e w6 ⟨rfl, hb6⟩
                     have hrow6 := hrow5.below hb6 hrow5.2.2
                     have hbw6 := hbw5.trans (hb6.mono hbw5.size)))
                go_roundw
                case rel => exact ⟨k + 1, D, rl, by omega, by omega, by omega, by go_num, (by rw [show D = 0 by omega]; rfl), hrow6, HRL.out, hbw6⟩
                case measure => simp [intOf]; omega
              · have t2 : (q == (D : Int)) = false := beq_eq_false_iff_ne.2 hqd
                clear hA hB hqd
                go_wp2_with (first
                  | (refine wpList_store_new rfl 33 (.tmp 10) (.tmp 38) rfl wr.heap.size rfl (mk c a1 q k).toArray zmsg.toArray 33 rfl rfl (mk_size _ _ _ _) rfl (mk_one _ _ _ _) ?_
                     intro X bX hX hXs
                     have hrowX := hrow.below hX hgr
                     have hbX := hbel.trans (hX.mono hbel.size))
                  | (refine wpList_load_row rfl 33 (.tmp 10) rfl wr.heap.size rfl 33 (mk c a1 q k).toArray (0, 0) _ bX Try.underlying33 rfl (mk_size _ _ _ _) ?_)
                  | (go_at_call 8; refine (ask_msg w.heap.size c (mk c a1 q k) rl a1 q D _ hc hss HM.out hrl2.out hrowX hq0 HQW.out).mono ?_; rw [HE.out]; rintro e w4 ⟨rfl, hb4⟩
                     have hrow4 := hrowX.below hb4 hrowX.2.2
                     have b4 := bX.below hb4 bX.lt
                     have hbw4 := hbX.trans (hb4.mono hbX.size)
                     clear hrowX)
                  | (refine wpList_store_new rfl 33 (.tmp 12) (.tmp 44) rfl w4.heap.size rfl zmsg.toArray zmsg.toArray 33 rfl rfl zmsg_size rfl zmsg_one ?_
                     intro X5 b5 hX5 _
                     have hrow5 := hrow4.below hX5 hrow4.2.2
                     have b10 := b4.below hX5 b4.lt
                     have hbw5 := hbw4.trans (hX5.mono hbw4.size)
                     have hcell5 := (hbw5.cell (p := ad.add k) (by rw [block_of_add]; exact hadb)).trans hcell0
                     clear hrow4 b4)
                  | (refine wpList_load_want 33 (.tmp 10) rfl wr.heap.size rfl 33 (mk c a1 q k).toArray (0, 0) _ b10 Try.underlying33 rfl (mk_size _ _ _ _) (by rfl) ?_)
                  | (go_at_call 9; refine (save_old w.heap.size c (mk c a1 q k) rl a1 q D _ hc hss HM.out hrl2.out hrow5 hq0 HQW.out HA.out HB.out).mono ?_; rintro e w6 ⟨rfl, hb6⟩
                     have hrow6 := hrow5.below hb6 hrow5.2.2
                     have hbw6 := hbw5.trans (hb6.mono hbw5.size)))
                go_roundw
                case rel => exact ⟨k + 1, D, rl, by omega, by omega, by omega, by go_num, rfl, hrow6, HRL.out, hbw6⟩
                case measure => simp [intOf]; omega
        · go_wp2_with (go_at_call 7; refine (lives_any _).mono ?_; rintro e w9 ⟨rfl, hb9⟩)
          go_ret
          exact ⟨rfl, hbel.trans (hb9.mono hbel.size)⟩
      · go_wp2_with (go_at_call 7; refine (lives_any _).mono ?_; rintro e w9 ⟨rfl, hb9⟩)
        go_ret
        exact ⟨rfl, hbel.trans (hb9.mono hbel.size)⟩
  · go_enter Try.func3, Try.ntmps3
    go_wp2_with (first
      | (go_at_call 5; refine (new_any _).mono ?_; rintro e w' ⟨rfl, rfl⟩)
      | (go_at_call 6; refine (open_bad w.heap.size a0 a1 _ hs0 hok).mono ?_; rintro e w3 ⟨rfl, rfl⟩)
      | (go_at_call 7; refine (lives_any _).mono ?_; rintro e w9 ⟨rfl, hb9⟩))
    go_ret
    exact ⟨rfl, ((Below.refl _ _).alloc (Nat.le_refl _) _).trans (hb9.mono (by simp))⟩

end Go.Proofs.Ytchddfodgibpjaa
