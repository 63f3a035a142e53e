/- Contract of the replies cache's Ask for a session that is. Conditions: the client is from 0 to 7, the session not 0, the last reply has no entries. -/
import Derived.Test.YtchddfodgibpjaaA
import Derived.Deep.RegionHeld3
import Derived.Deep.WholeRow
namespace Go.Proofs.Ytchddfodgibpjaa
open Go.RowKit
set_option linter.unusedVariables false
theorem zmsg_one : (zmsg.toArray).all (·.oneCell') = true := by simp [zmsg, Value.oneCell']
theorem zmsg_size : (Try.prog.info? 33).map (·.size) = some (zmsg.toArray).size := size33

/-- what Ask answers of a session that is: p the last one, q the asked one, rl the last reply -/
def askR (p q : Int) (rl : List Value) : Value :=
  if 0 < q ∧ q - 1 = p then .tuple #[.int .i64 1, .agg zmsg.toArray] else if 0 < q ∧ q = p then .tuple #[.int .i64 2, .agg rl.toArray] else .tuple #[.int .i64 3, .agg zmsg.toArray]
section
variable {P : Program} {ops : Array Oper} {Q : Exit → Act → World → Prop} {md : Region.Mode} {S : World → Prop}
/-- the one operation that may come up -/
theorem anyH_one {i : Nat} {o : Oper} {fuel : Nat} {listed : Array Bool} {a : Act} {w : World} (hr : Region.ready md ops listed = [i]) (ho : ops[i]? = some o)
    (hw : Region.wanted o (yielded ops a.tmps) = true)
    (h : ∀ K' : Act → World → Prop, (∀ a' w', S w' → wpAnyH P md ops Q S fuel (listed.setIfInBounds i true) a' w' → K' a' w') → Oper.wp P o a w K' Q) : wpAnyH P md ops Q S (fuel + 1) listed a w := by
  refine wpAnyH_all hr (by simp) (fun j hj => ?_)
  obtain rfl : j = i := by simpa using hj
  refine wpOp_step ho (fun K' hK' => ?_)
  rw [if_pos hw]
  exact h K' (fun a' w' hs hh => hK' a' w' ⟨hs, hh⟩)
/-- a whole struct goes into the block that was made last -/
theorem wpList_store_last {rest : List Oper} {o : Oper} {a : Act} {w : World} (hgd : o.guard = none) (ty : TypeId) (x y : Operand) (ho : o.op = .store ty x y)
    (cells old : Array Value) (t : TypeId) (hx : a.eval x = .pointer (some ⟨w.heap.size, 0, none⟩)) (hy : a.eval y = .agg cells) (hi : (P.info? ty).map (·.size) = some cells.size)
    (hold : old.size = cells.size) (h1 : cells.all (·.oneCell') = true)
    (h : ∀ X, Blk X w.heap.size t cells → Below w.heap.size w X → X.heap.size = w.heap.size + 1 → wpList P ops Q rest (a.put o.dst undef) X) : wpList P ops Q (o :: rest) a (w.alloc (.cells old t)) := by
  have hb := Blk.new w t old
  refine wpList_store_row hgd ty x y ho w.heap.size cells hx hy t old hb hi hold h1 ?_
  exact h _ (hb.row _) (below_row ((Below.refl _ _).alloc (Nat.le_refl _) _) (Nat.le_refl _) _) (by simp)
end

set_option maxRecDepth 100000 in
set_option maxHeartbeats 2000000 in
theorem ask_in (g c : Nat) (mc : Array Value) (rl : List Value) (s q p : Int) (w : World) (hc : c < 8) (hs : (s == 0) = false) 
    (m1 : mc[1]? = some (.int .i64 (c : Int))) (m2 : mc[2]? = some (.int .u64 s)) (m3 : mc[3]? = some (.int .u64 q))
    (hr : w.rangeAt g (c * 20) (.int .u64 s :: .int .u64 p :: rl)) (hq0 : 0 ≤ q) (hqw : 0 < q → IntKind.u64.wrap (q - 1) = q - 1) (hrc : rl.length = 18) (hrn : rl[17]? = some (.slice none 0 0)) (ho : ∀ v ∈ rl, v.oneCell' = true) :
    Calls Try.prog 8 #[.pointer (some ⟨g, 0, none⟩), .agg mc] w fun e w' => e = .returned (askR p q rl) ∧ Below w.heap.size w w' := by
  have k0 : w.cell? ⟨g, c * 20, none⟩ = some (.int .u64 s) := hr 0 _ rfl
  have hlt : g < w.heap.size := World.block_lt_of_cell? w _ k0
  have hc0 : (0 : Int) ≤ (c : Int) := by omega
  have hc8 : (c : Int) < 8 := by omega
  have hss : (s != s) = false := by simp
  have HR := Lib.hid hr
  have HRN := Lib.hid hrn
  have HQW := Lib.hid hqw
  have hone : ∀ v ∈ Value.int .u64 s :: Value.int .u64 p :: rl, v.oneCell' = true := by
    intro v hv
    rcases List.mem_cons.1 hv with rfl | hv
    · rfl
    · rcases List.mem_cons.1 hv with rfl | hv
      · rfl
      · exact ho v hv
  have HRC := Lib.hid hrc
  clear hr hrn hrc hqw
  go_enter Try.func8, Try.ntmps8
  go_wp2_with fail
  have hB0 : Below w.heap.size w ((w.alloc (.cells mc 33)).alloc (.cells zmsg.toArray 33)) := ((Below.refl _ _).alloc (Nat.le_refl _) _).alloc (by simp) _
  refine (session_in g c s _ hc ((hB0.cell (p := ⟨g, c * 20, none⟩) hlt).trans k0)).mono ?_
  rintro e w' ⟨rfl, rfl⟩
  go_wp2_with fail
  have b3 : Blk ((w.alloc (.cells mc 33)).alloc (.cells zmsg.toArray 33)) w.heap.size 33 mc := (Blk.new w 33 mc).alloc _
  have b5 : Blk ((w.alloc (.cells mc 33)).alloc (.cells zmsg.toArray 33)) (w.heap.size + 1) 33 zmsg.toArray := Blk.new2 w _ _ _
  have hsz : ((w.alloc (.cells mc 33)).alloc (.cells zmsg.toArray 33)).heap.size = w.heap.size + 2 := by simp
  generalize (w.alloc (.cells mc 33)).alloc (.cells zmsg.toArray 33) = W at hB0 b3 b5 hsz ⊢
  have e1 : W.cell? ⟨w.heap.size, 1, none⟩ = some (.int .i64 (c : Int)) := (b3.cell 1).trans m1
  have hgW : g < W.heap.size := by omega
  have hwW : w.heap.size ≤ W.heap.size := by omega
  have HSZ := Lib.hid hsz
  clear hsz
  have hS0 : Below W.heap.size W W.drew := (Below.refl _ _).drew
  refine wp_region_held (S := Below W.heap.size W) (by kernel_rfl) ?_
  refine wpAnyH_take (i := 0) rfl (by kernel_rfl) (by kernel_rfl) (by kernel_rfl) (fun _ _ _ h => h) (.inl ⟨by kernel_rfl, fun w1 hw1 => by go_simp; rfl⟩) hS0 ?_
  refine wpAnyH_take (i := 1) rfl (by kernel_rfl) (by kernel_rfl) (by kernel_rfl) (fun _ _ _ h => h) (.inl ⟨by kernel_rfl, fun w1 hw1 => by go_simp; rfl⟩) hS0 ?_
  refine wpAnyH_take (i := 2) rfl (by kernel_rfl) (by kernel_rfl) (by kernel_rfl) (fun _ _ _ h => h) (.inl ⟨by kernel_rfl, fun w1 hw1 => by have e2 := (hw1.cell (p := ⟨w.heap.size, 1, none⟩) b3.lt).trans e1; go_simp; rfl⟩) hS0 ?_
  refine wpAnyH_take (i := 3) rfl (by kernel_rfl) (by kernel_rfl) (by kernel_rfl) (fun _ _ _ h => h) (.inl ⟨by kernel_rfl, fun w1 hw1 => by go_simp; rfl⟩) hS0 ?_
  refine wpAnyH_take (i := 4) rfl (by kernel_rfl) (by kernel_rfl) (by kernel_rfl) (fun _ _ _ h => h) (.inl ⟨by kernel_rfl, fun w1 hw1 => by go_simp; rfl⟩) hS0 ?_
  refine wpAnyH_take (i := 5) rfl (by kernel_rfl) (by kernel_rfl) (by kernel_rfl) (fun _ _ _ h => h) (.inl ⟨by kernel_rfl, fun w1 hw1 => by go_simp; rfl⟩) hS0 ?_
  have hrW := rangeAt_below HR.out hB0 hlt
  have hrl : (Try.prog.info? 44).map (·.size) = some (Value.int .u64 s :: Value.int .u64 p :: rl).length := by rw [size44]; simp [HRC.out]
  refine wpAnyH_take (i := 6) rfl (by kernel_rfl) (by kernel_rfl) (by kernel_rfl) (fun _ _ _ h => h) (yieldsIf_load_mid (by kernel_rfl) 44 _ rfl g (c * 20) (by kernel_rfl) _ _ (fun w1 hw1 => rangeAt_below hrW hw1 hgW) Try.underlying44 rfl hrl) hS0 ?_
  refine anyH_one (i := 7) (by kernel_rfl) rfl (by kernel_rfl) (fun K hK => ?_)
  go_simp
  have hS1 : Below W.heap.size W (W.drew.alloc (.cells zrow.toArray 44)) := hS0.alloc (Nat.le_refl _) _
  refine hK _ _ hS1 ?_
  refine anyH_one (i := 8) (by kernel_rfl) rfl (by kernel_rfl) (fun K hK => ?_)
  refine wp_store_row 44 (.tmp 7) (.tmp 28) rfl W.heap.size (Value.int .u64 s :: Value.int .u64 p :: rl).toArray (by kernel_rfl) (by kernel_rfl) 44 zrow.toArray (Blk.new W.drew _ _) (by rw [hrl]; rfl) (by simp [HRC.out]; rfl) (all_oneCell_toArray hone) ?_
  refine hK _ ((W.drew.alloc (.cells zrow.toArray 44)).setRow W.heap.size (Value.int .u64 s :: Value.int .u64 p :: rl).toArray) (below_row hS1 (Nat.le_refl _) _) ?_
  refine wpAnyH_done (by kernel_rfl) ?_ _
  have b7 : Blk ((W.drew.alloc (.cells zrow.toArray 44)).setRow W.heap.size (Value.int .u64 s :: Value.int .u64 p :: rl).toArray) W.heap.size 44 (Value.int .u64 s :: Value.int .u64 p :: rl).toArray := (Blk.new W.drew _ _).row _
  have hbw := hB0.trans ((below_row hS1 (Nat.le_refl _) (Value.int .u64 s :: Value.int .u64 p :: rl).toArray).mono hwW)
  have b3' := b3.below (below_row hS1 (Nat.le_refl _) (Value.int .u64 s :: Value.int .u64 p :: rl).toArray) b3.lt
  have b5' := b5.below (below_row hS1 (Nat.le_refl _) (Value.int .u64 s :: Value.int .u64 p :: rl).toArray) b5.lt
  generalize (W.drew.alloc (.cells zrow.toArray 44)).setRow W.heap.size (Value.int .u64 s :: Value.int .u64 p :: rl).toArray = V at *
  generalize W.heap.size = B7 at *
  clear hS0 hS1 hrl
  have f3 : V.cell? ⟨w.heap.size, 3, none⟩ = some (.int .u64 q) := (b3'.cell 3).trans m3
  have f7 : V.cell? ⟨B7, 1, none⟩ = some (.int .u64 p) := b7.cell 1
  have hfin : ∀ (k : Int), Below w.heap.size w (V.setRow (w.heap.size + 1) zmsg.toArray) := fun _ => below_row hbw (by omega) _
  have hz5 : Blk (V.setRow (w.heap.size + 1) zmsg.toArray) (w.heap.size + 1) 33 zmsg.toArray := b5'.row _
  by_cases hA : 0 < q ∧ q - 1 = p
  · have HE : Hid (askR p q rl = .tuple #[.int .i64 1, .agg zmsg.toArray]) := show _ = _ by unfold askR; rw [if_pos hA]
    have t1 : 0 < q := hA.1
    have t2 : (IntKind.u64.wrap (q - 1) == p) = true := by rw [HQW.out hA.1, hA.2]; exact beq_self_eq_true p
    clear hA
    go_wp2_with (refine wpList_store_row rfl 33 (.tmp 5) (.tmp 41) rfl (w.heap.size + 1) zmsg.toArray rfl rfl 33 _ b5' zmsg_size rfl zmsg_one ?_)
    exact bodyPost_ret (results_tmp_cell Try.results8 _ _ (w.heap.size + 1) 33 zmsg.toArray (0, 0) _ rfl hz5 Try.underlying33 rfl zmsg_size) rfl ⟨congrArg Ending.returned HE.out.symm, hfin 0⟩
  · by_cases hB : 0 < q ∧ q = p
    · have HE : Hid (askR p q rl = .tuple #[.int .i64 2, .agg rl.toArray]) := show _ = _ by unfold askR; rw [if_neg hA, if_pos hB]
      have t1 : 0 < q := hB.1
      have t2 : (IntKind.u64.wrap (q - 1) == p) = false := by rw [HQW.out t1, beq_eq_false_iff_ne]; omega
      have t3 : (q == p) = true := beq_iff_eq.2 hB.2
      have hR : V.rangeAt B7 2 rl := fun j v hv => by
        rw [b7.cell, List.getElem?_toArray, show 2 + j = j + 1 + 1 from by omega]
        exact hv
      have hi : (Try.prog.info? 33).map (·.size) = some rl.length := by rw [size33, HRC.out]
      have h1 : rl.toArray.all (·.oneCell') = true := all_oneCell_toArray ho
      have hh : zmsg.toArray.size = rl.toArray.size := by rw [List.size_toArray, List.size_toArray, HRC.out]; rfl
      have HI := Lib.hid hi
      have HH := Lib.hid hh
      clear hA hB hi hh hz5 hfin b7
      go_wp2_with (first
        | (refine wpList_load_mid rfl 33 (.tmp 53) rfl B7 2 rfl rl _ hR Try.underlying33 rfl HI.out ?_)
        | (refine wpList_store_last rfl 33 (.tmp 8) (.tmp 54) rfl rl.toArray zmsg.toArray 33 rfl rfl HI.out HH.out h1 ?_
           intro X bX hX hXs
           have c17 : X.cell? ⟨V.heap.size, 17, none⟩ = some (.slice none 0 0) := (bX.cell 17).trans (by rw [List.getElem?_toArray]; exact HRN.out)
           have d17 := bX.frozen 17)
        | (go_at_call 15; refine (clone_nil _).mono ?_; rintro e w' ⟨rfl, rfl⟩))
      have hlt5 := b5'.lt
      have b5X := b5'.below hX b5'.lt
      have bY : Blk (X.setCell ⟨V.heap.size, 17, none⟩ (.slice none 0 0)) V.heap.size 33 rl.toArray := by
        have h := bX.set_ 17 (.slice none 0 0)
        rwa [show rl.toArray.setIfInBounds 17 (.slice none 0 0) = rl.toArray from ?_] at h
        apply Array.ext_getElem?
        intro j
        rw [Array.getElem?_setIfInBounds]
        by_cases hj : 17 = j
        · subst hj
          rw [if_pos rfl, List.getElem?_toArray, HRN.out, if_pos (by rw [List.size_toArray, HRC.out]; omega)]
        · rw [if_neg hj]
      have b5Y : Blk (X.setCell ⟨V.heap.size, 17, none⟩ (.slice none 0 0)) (w.heap.size + 1) 33 zmsg.toArray := b5X.far (p := ⟨V.heap.size, 17, none⟩) (by simp; omega) _
      have hbY : Below w.heap.size w (X.setCell ⟨V.heap.size, 17, none⟩ (.slice none 0 0)) := (hbw.trans (hX.mono hbw.size)).setCell (p := ⟨V.heap.size, 17, none⟩) hbw.size _
      generalize X.setCell ⟨V.heap.size, 17, none⟩ (.slice none 0 0) = Y at *
      generalize V.heap.size = B8 at *
      have rng : ∀ w1 : World, Blk w1 B8 33 rl.toArray → w1.rangeAt B8 0 rl := fun w1 h j v hv => by
        rw [h.cell, List.getElem?_toArray, Nat.zero_add]; exact hv
      refine wp_region_held (S := fun w' => Blk w' B8 33 rl.toArray) (by kernel_rfl) ?_
      refine wpAnyH_take (i := 0) rfl (by kernel_rfl) (by kernel_rfl) (by kernel_rfl) (fun _ _ _ h => h) (yieldsIf_load_mid (by kernel_rfl) 33 _ rfl B8 0 (by kernel_rfl) rl _ rng Try.underlying33 rfl HI.out) bY.drew ?_
      refine wpAnyH_take (i := 1) rfl (by kernel_rfl) (by kernel_rfl) (by kernel_rfl) (fun _ _ _ h => h) (.inl ⟨by kernel_rfl, fun w1 hw1 => by go_simp; rfl⟩) bY.drew ?_
      refine anyH_one (i := 2) (by kernel_rfl) rfl (by kernel_rfl) (fun K hK => ?_)
      refine wp_store_row 33 (.tmp 5) (.tmp 59) rfl (w.heap.size + 1) rl.toArray (by kernel_rfl) (by kernel_rfl) 33 zmsg.toArray b5Y.drew HI.out HH.out h1 ?_
      refine hK _ (Y.drew.setRow (w.heap.size + 1) rl.toArray) (bY.drew.row_far (by omega) _) ?_
      refine wpAnyH_done (by kernel_rfl) ?_ _
      go_wp2_with fail
      exact bodyPost_ret (results_tmp_cell Try.results8 _ _ (w.heap.size + 1) 33 rl.toArray (0, 0) _ rfl (b5Y.drew.row _) Try.underlying33 rfl HI.out) rfl ⟨congrArg Ending.returned HE.out.symm, below_row hbY.drew (by omega) _⟩
    · have HE : Hid (askR p q rl = .tuple #[.int .i64 3, .agg zmsg.toArray]) := show _ = _ by unfold askR; rw [if_neg hA, if_neg hB]
      by_cases t1 : 0 < q
      · have t2 : (IntKind.u64.wrap (q - 1) == p) = false := by rw [HQW.out t1, beq_eq_false_iff_ne]; omega
        have t3 : (q == p) = false := by rw [beq_eq_false_iff_ne]; omega
        clear hA hB
        go_wp2_with (refine wpList_store_row rfl 33 (.tmp 5) (.tmp 60) rfl (w.heap.size + 1) zmsg.toArray rfl rfl 33 _ b5' zmsg_size rfl zmsg_one ?_)
        exact bodyPost_ret (results_tmp_cell Try.results8 _ _ (w.heap.size + 1) 33 zmsg.toArray (0, 0) _ rfl hz5 Try.underlying33 rfl zmsg_size) rfl ⟨congrArg Ending.returned HE.out.symm, hfin 0⟩
      · clear hA hB
        go_wp2_with (refine wpList_store_row rfl 33 (.tmp 5) (.tmp 60) rfl (w.heap.size + 1) zmsg.toArray rfl rfl 33 _ b5' zmsg_size rfl zmsg_one ?_)
        exact bodyPost_ret (results_tmp_cell Try.results8 _ _ (w.heap.size + 1) 33 zmsg.toArray (0, 0) _ rfl hz5 Try.underlying33 rfl zmsg_size) rfl ⟨congrArg Ending.returned HE.out.symm, hfin 0⟩
end Go.Proofs.Ytchddfodgibpjaa
