/- A message cut short: the whole function. -/
import Derived.Test.YtchddfodgibpjaaI
namespace Go.Proofs.Ytchddfodgibpjaa
open Go.RowKit
set_option linter.unusedVariables false

set_option maxRecDepth 100000 in
set_option maxHeartbeats 4000000 in
theorem short_msg (mc : Array Value) (c : Int) (s11 s12 s15 : ByteArray) (A : Option Addr) (len cap : Nat) (w : World) (hm : IsM w mc c s11 s12 s15 A len cap) :
    Calls Try.prog 10 #[.agg mc] w (SomeMsg w c) := by
  have l11 := hm.l11
  have l12 := hm.l12
  have l15 := hm.l15
  have HM := hide hm
  go_enter Try.func10, Try.ntmps10
  go_upto_region 1 with (fail)
  have hB0 : Below w.heap.size w ((w.alloc (.cells mc 33)).alloc (.cells #[.int .i64 0, .int .i64 0, .int .u64 0, .int .u64 0, .int .u64 0, .int .i64 0, .int .i64 0, .int .i64 0, .int .i64 0, .int .i64 0, .int .i64 0, .string ⟨#[]⟩, .string ⟨#[]⟩, .int .i64 0, .int .i64 0, .string ⟨#[]⟩, .int .u64 0, .slice none 0 0] 33)) := ((Below.refl _ _).alloc (Nat.le_refl _) _).alloc (by simp) _
  have b1 : Blk ((w.alloc (.cells mc 33)).alloc (.cells #[.int .i64 0, .int .i64 0, .int .u64 0, .int .u64 0, .int .u64 0, .int .i64 0, .int .i64 0, .int .i64 0, .int .i64 0, .int .i64 0, .int .i64 0, .string ⟨#[]⟩, .string ⟨#[]⟩, .int .i64 0, .int .i64 0, .string ⟨#[]⟩, .int .u64 0, .slice none 0 0] 33)) w.heap.size 33 mc := (Blk.new w _ _).alloc _
  have b2 : Blk ((w.alloc (.cells mc 33)).alloc (.cells #[.int .i64 0, .int .i64 0, .int .u64 0, .int .u64 0, .int .u64 0, .int .i64 0, .int .i64 0, .int .i64 0, .int .i64 0, .int .i64 0, .int .i64 0, .string ⟨#[]⟩, .string ⟨#[]⟩, .int .i64 0, .int .i64 0, .string ⟨#[]⟩, .int .u64 0, .slice none 0 0] 33)) (w.heap.size + 1) 33 zmsg.toArray := Blk.new2 w _ _ _
  have hsz : ((w.alloc (.cells mc 33)).alloc (.cells #[.int .i64 0, .int .i64 0, .int .u64 0, .int .u64 0, .int .u64 0, .int .i64 0, .int .i64 0, .int .i64 0, .int .i64 0, .int .i64 0, .int .i64 0, .string ⟨#[]⟩, .string ⟨#[]⟩, .int .i64 0, .int .i64 0, .string ⟨#[]⟩, .int .u64 0, .slice none 0 0] 33)).heap.size = w.heap.size + 2 := by simp
  generalize (w.alloc (.cells mc 33)).alloc (.cells #[.int .i64 0, .int .i64 0, .int .u64 0, .int .u64 0, .int .u64 0, .int .i64 0, .int .i64 0, .int .i64 0, .int .i64 0, .int .i64 0, .int .i64 0, .string ⟨#[]⟩, .string ⟨#[]⟩, .int .i64 0, .int .i64 0, .string ⟨#[]⟩, .int .u64 0, .slice none 0 0] 33) = W at hB0 b1 b2 hsz ⊢
  have e11 : W.cell? ⟨w.heap.size, 11, none⟩ = some (.string s11) := (b1.cell 11).trans hm.c11
  have e12 : W.cell? ⟨w.heap.size, 12, none⟩ = some (.string s12) := (b1.cell 12).trans hm.c12
  have e15 : W.cell? ⟨w.heap.size, 15, none⟩ = some (.string s15) := (b1.cell 15).trans hm.c15
  have fz11 := b1.frozen 11
  have fz12 := b1.frozen 12
  have fz15 := b1.frozen 15
  clear hm
  refine region_T (fun w' => w'.cell? ⟨w.heap.size, 11, none⟩ = some (.string s11) ∧ w'.cell? ⟨w.heap.size, 12, none⟩ = some (.string s12) ∧ w'.cell? ⟨w.heap.size, 15, none⟩ = some (.string s15)) 10 (by kernel_rfl) ?_
  refine anyT_pure (i := 0) rfl (by kernel_rfl) (by kernel_rfl) (by kernel_rfl) rfl (by kernel_rfl) (fun _ _ _ h => h) (.inl ⟨by kernel_rfl, fun w1 _ => by go_simp; rfl⟩) (fun _ => ⟨e11, e12, e15⟩) ?_
  refine anyT_pure (i := 3) rfl (by kernel_rfl) (by kernel_rfl) (by kernel_rfl) rfl (by kernel_rfl) (fun _ _ _ h => h) (.inl ⟨by kernel_rfl, fun w1 _ => by go_simp; rfl⟩) (fun _ => ⟨e11, e12, e15⟩) ?_
  refine anyT_pure (i := 6) rfl (by kernel_rfl) (by kernel_rfl) (by kernel_rfl) rfl (by kernel_rfl) (fun _ _ _ h => h) (.inl ⟨by kernel_rfl, fun w1 _ => by go_simp; rfl⟩) (fun _ => ⟨e11, e12, e15⟩) ?_
  refine anyT_load (i := 1) rfl (by kernel_rfl) (by kernel_rfl) (by kernel_rfl) rfl (by kernel_rfl) (by kernel_rfl) (fun _ _ _ h => h) (.inl ⟨by kernel_rfl, fun w1 hw1 => by obtain ⟨f1, f2, f3⟩ := hw1; go_simp; rfl⟩) ⟨e11, e12, e15⟩ ?_
  refine anyT_load (i := 4) rfl (by kernel_rfl) (by kernel_rfl) (by kernel_rfl) rfl (by kernel_rfl) (by kernel_rfl) (fun _ _ _ h => h) (.inl ⟨by kernel_rfl, fun w1 hw1 => by obtain ⟨f1, f2, f3⟩ := hw1; go_simp; rfl⟩) ⟨e11, e12, e15⟩ ?_
  refine anyT_load (i := 7) rfl (by kernel_rfl) (by kernel_rfl) (by kernel_rfl) rfl (by kernel_rfl) (by kernel_rfl) (fun _ _ _ h => h) (.inl ⟨by kernel_rfl, fun w1 hw1 => by obtain ⟨f1, f2, f3⟩ := hw1; go_simp; rfl⟩) ⟨e11, e12, e15⟩ ?_
  refine anyT_one (i := 2) (by kernel_rfl) rfl (by kernel_rfl) (fun K hK => ?_)
  go_simp
  refine (short_str s11 20 _ l11 (by omega)).mono ?_
  rintro e w' ⟨t2, rfl, ht2, rfl⟩
  refine hK _ _ (fun _ => ⟨e11, e12, e15⟩) ?_
  clear hK K
  refine anyT_pure (i := 9) rfl (by kernel_rfl) (by kernel_rfl) (by kernel_rfl) rfl (by kernel_rfl) (fun _ _ _ h => h) (.inl ⟨by kernel_rfl, fun w1 _ => by go_simp; rfl⟩) (fun _ => ⟨e11, e12, e15⟩) ?_
  refine anyT_one (i := 5) (by kernel_rfl) rfl (by kernel_rfl) (fun K hK => ?_)
  go_simp
  refine (short_str s12 20 _ l12 (by omega)).mono ?_
  rintro e w' ⟨t5, rfl, ht5, rfl⟩
  refine hK _ _ (fun _ => ⟨e11, e12, e15⟩) ?_
  clear hK K
  refine anyT_one (i := 8) (by kernel_rfl) rfl (by kernel_rfl) (fun K hK => ?_)
  go_simp
  refine (short_str s15 70 _ l15 (by omega)).mono ?_
  rintro e w' ⟨t8, rfl, ht8, rfl⟩
  refine hK _ _ (fun _ => ⟨e11, e12, e15⟩) ?_
  clear hK K
  refine anyT_one (i := 10) (by kernel_rfl) rfl (by kernel_rfl) (fun K hK => ?_)
  go_simp
  refine hK _ _ (fun h => absurd (h.symm.trans (by kernel_rfl)) Bool.false_ne_true) ?_
  clear hK K
  refine anyT_pure (i := 11) rfl (by kernel_rfl) (by kernel_rfl) (by kernel_rfl) rfl (by kernel_rfl) (fun _ _ _ h => h) (.inl ⟨by kernel_rfl, fun w1 _ => by go_simp; rfl⟩) (fun h => absurd (h.symm.trans (by kernel_rfl)) Bool.false_ne_true) ?_
  refine anyT_one (i := 12) (by kernel_rfl) rfl (by kernel_rfl) (fun K hK => ?_)
  go_simp
  refine hK _ _ (fun h => absurd (h.symm.trans (by kernel_rfl)) Bool.false_ne_true) ?_
  clear hK K
  refine anyT_pure (i := 13) rfl (by kernel_rfl) (by kernel_rfl) (by kernel_rfl) rfl (by kernel_rfl) (fun _ _ _ h => h) (.inl ⟨by kernel_rfl, fun w1 _ => by go_simp; rfl⟩) (fun h => absurd (h.symm.trans (by kernel_rfl)) Bool.false_ne_true) ?_
  refine anyT_one (i := 14) (by kernel_rfl) rfl (by kernel_rfl) (fun K hK => ?_)
  go_simp
  refine hK _ _ (fun h => absurd (h.symm.trans (by kernel_rfl)) Bool.false_ne_true) ?_
  clear hK K
  refine anyT_done (by kernel_rfl) ?_ _
  have b1' := ((b1.drew.set_ 11 (.string t2)).set_ 12 (.string t5)).set_ 15 (.string t8)
  have b2' := ((b2.drew.far (p := ⟨w.heap.size, 11, none⟩) (by simp) (.string t2)).far (p := ⟨w.heap.size, 12, none⟩) (by simp) (.string t5)).far (p := ⟨w.heap.size, 15, none⟩) (by simp) (.string t8)
  have hB1 := ((hB0.drew.setCell (p := ⟨w.heap.size, 11, none⟩) (Nat.le_refl _) (.string t2)).setCell (p := ⟨w.heap.size, 12, none⟩) (Nat.le_refl _) (.string t5)).setCell (p := ⟨w.heap.size, 15, none⟩) (Nat.le_refl _) (.string t8)
  have hW1 : (((W.drew.setCell ⟨w.heap.size, 11, none⟩ (.string t2)).setCell ⟨w.heap.size, 12, none⟩ (.string t5)).setCell ⟨w.heap.size, 15, none⟩ (.string t8)).heap.size = W.heap.size := by simp [World.setCell]
  have m17 : (((mc.setIfInBounds 11 (.string t2)).setIfInBounds 12 (.string t5)).setIfInBounds 15 (.string t8))[17]? = some (.slice A len cap) := by
    rw [Array.getElem?_setIfInBounds_ne (by omega), Array.getElem?_setIfInBounds_ne (by omega), Array.getElem?_setIfInBounds_ne (by omega)]; exact (unhide HM).c17
  have m1 : (((mc.setIfInBounds 11 (.string t2)).setIfInBounds 12 (.string t5)).setIfInBounds 15 (.string t8))[1]? = some (.int .i64 c) := by
    rw [Array.getElem?_setIfInBounds_ne (by omega), Array.getElem?_setIfInBounds_ne (by omega), Array.getElem?_setIfInBounds_ne (by omega)]; exact (unhide HM).c1
  have msz : (((mc.setIfInBounds 11 (.string t2)).setIfInBounds 12 (.string t5)).setIfInBounds 15 (.string t8)).size = 18 := by simpa using (unhide HM).sz
  have mone := all_set (i := 15) (v := .string t8) (all_set (i := 12) (v := .string t5) (all_set (i := 11) (v := .string t2) (unhide HM).one rfl) rfl) rfl
  have hst : Sh w (((W.setCell ⟨w.heap.size, 11, none⟩ (.string t2)).setCell ⟨w.heap.size, 12, none⟩ (.string t5)).setCell ⟨w.heap.size, 15, none⟩ (.string t8)).drew (((mc.setIfInBounds 11 (.string t2)).setIfInBounds 12 (.string t5)).setIfInBounds 15 (.string t8)) 0 (.slice none 0 0) :=
    ⟨⟨[], ⟨rfl, .inl ⟨rfl, rfl⟩⟩⟩, b1', b2', hB1, (by show _ ≤ (((W.drew.setCell ⟨w.heap.size, 11, none⟩ (.string t2)).setCell ⟨w.heap.size, 12, none⟩ (.string t5)).setCell ⟨w.heap.size, 15, none⟩ (.string t8)).heap.size; rw [hW1]; omega)⟩
  generalize ((mc.setIfInBounds 11 (.string t2)).setIfInBounds 12 (.string t5)).setIfInBounds 15 (.string t8) = mc1 at m17 m1 msz mone hst
  have HST := Lib.hid hst
  have M17 := Lib.hid m17
  have M1 := Lib.hid m1
  have MSZ := Lib.hid msz
  have MONE := Lib.hid mone
  clear hst m17 m1 msz mone b1' b2' hB1 b1 b2 hsz e11 e12 e15 fz11 fz12 fz15 hW1
  generalize (((W.setCell ⟨w.heap.size, 11, none⟩ (.string t2)).setCell ⟨w.heap.size, 12, none⟩ (.string t5)).setCell ⟨w.heap.size, 15, none⟩ (.string t8)).drew = W1 at HST ⊢
  go_wp2
  refine wp_loop (c := shBody) (fun a' w' => ∃ k v, k ≤ len ∧ k ≤ 26 ∧ FrS w.heap.size k v a' ∧ Sh w w' mc1 k v) (fun a' _ => 26 - (intOf (a'.tmps.getD 4 undef)).toNat)
    ⟨0, .slice none 0 0, Nat.zero_le _, Nat.zero_le _, ⟨rfl, rfl, rfl, rfl, rfl, rfl⟩, HST.out⟩ ?_
  clear HST
  rintro a' w' ⟨k, v, hk, hk26, hf, hh⟩
  have hlen := (unhide HM).le
  unfold maxLen at hlen
  by_cases hlt : k < len ∧ k < 26
  · obtain ⟨hlt, hlt2⟩ := hlt
    obtain ⟨x, o, s, z1, z2, z3, hA, he⟩ := (unhide HM).ents k hlt
    subst hA
    refine sh_round hf hh M17.out he hlt hlt2 (by omega) ?_
    intro a'' w'' v' hf2 hh2
    refine ⟨⟨k + 1, v', hlt, hlt2, hf2, hh2⟩, ?_⟩
    show 26 - (intOf (a''.tmps.getD 4 undef)).toNat < 26 - (intOf (a'.tmps.getD 4 undef)).toNat
    rw [hf.s4, hf2.s4]
    simp [intOf]; omega
  · have hor : ¬ k < len ∨ (k < len ∧ ¬ k < 26) := by omega
    clear hlt
    obtain ⟨xs, hown⟩ := hh.own
    obtain ⟨A', c', rfl⟩ := own_slice hown
    have k17 : w'.cell? ⟨w.heap.size, 17, none⟩ = some (.slice A len cap) := (hh.b1.cell 17).trans M17.out
    have f17 := hh.b1.frozen 17
    have b1 := hh.b1.set_ 17 (.slice A' k c')
    have b2 := hh.b2.far (p := ⟨w.heap.size, 17, none⟩) (by simp) (.slice A' k c')
    have hbl := hh.bel.setCell (p := ⟨w.heap.size, 17, none⟩) (Nat.le_refl _) (.slice A' k c')
    have n1 : (mc1.setIfInBounds 17 (.slice A' k c'))[1]? = some (.int .i64 c) := by rw [Array.getElem?_setIfInBounds_ne (by omega)]; exact M1.out
    have nsz : (mc1.setIfInBounds 17 (.slice A' k c')).size = 18 := by simpa using MSZ.out
    have none_ := all_set (i := 17) (v := .slice A' k c') MONE.out rfl
    generalize mc1.setIfInBounds 17 (.slice A' k c') = mc2 at b1 n1 nsz none_
    have N1 := Lib.hid n1
    have NSZ := Lib.hid nsz
    have NONE := Lib.hid none_
    have hsz2 := size33' nsz
    have HSZ := Lib.hid hsz2
    have hzs : zmsg.toArray.size = mc2.size := by rw [nsz]; rfl
    have HZS := Lib.hid hzs
    have HB1 := hide b1
    have HB2 := hide b2
    have HBL := hide hbl
    clear hown hh n1 nsz none_ hsz2 hzs b1 b2 hbl
    refine FrS.cases (motive := fun a => Code.wp Try.prog shBody _ a w') hf ?_
    clear hf
    intros
    rcases hor with h1 | ⟨h1, h2⟩
    all_goals
      conv => arg 2; whnf
      go_wp2_with (first
        | (refine wpList_load_row rfl 33 (.tmp 1) rfl w.heap.size rfl 33 mc2 (0, 0) _ (unhide HB1) Try.underlying33 rfl HSZ.out ?_)
        | (refine wpList_store_row rfl 33 (.tmp 2) (.tmp 44) rfl (w.heap.size + 1) mc2 rfl rfl 33 _ (unhide HB2) HSZ.out HZS.out NONE.out ?_))
      exact bodyPost_ret (results_cell_row Try.results10 _ _ (w.heap.size + 1) 33 mc2 (0, 0) _ rfl ((unhide HB2).row mc2) Try.underlying33 rfl HSZ.out) rfl ⟨mc2, rfl, NSZ.out, NONE.out, N1.out, below_row (unhide HBL) (by omega) _⟩

end Go.Proofs.Ytchddfodgibpjaa
