/- Contract of the replies cache's Save. Conditions: as Ask's. -/
import Derived.Test.YtchddfodgibpjaaC
namespace Go.Proofs.Ytchddfodgibpjaa
open Go.RowKit
set_option linter.unusedVariables false

theorem built44' (s q : Int) (m0 m1 m2 m3 m4 m5 m6 m7 m8 m9 m10 m11 m12 m13 m14 m15 m16 m17 : Value) :
    Try.prog.built 44 [(0, .int .u64 s), (1, .int .u64 q), (2, .agg #[m0, m1, m2, m3, m4, m5, m6, m7, m8, m9, m10, m11, m12, m13, m14, m15, m16, m17])] = some #[.int .u64 s, .int .u64 q, m0, m1, m2, m3, m4, m5, m6, m7, m8, m9, m10, m11, m12, m13, m14, m15, m16, m17] := by kernel_rfl
theorem built44 (s q : Int) (ml : List Value) (h : ml.length = 18) :
    Try.prog.built 44 [(0, .int .u64 s), (1, .int .u64 q), (2, .agg ml.toArray)] = some (.int .u64 s :: .int .u64 q :: ml).toArray := by
  match ml, h with
  | [m0, m1, m2, m3, m4, m5, m6, m7, m8, m9, m10, m11, m12, m13, m14, m15, m16, m17], _ => exact built44' s q m0 m1 m2 m3 m4 m5 m6 m7 m8 m9 m10 m11 m12 m13 m14 m15 m16 m17
theorem yieldsIf_build {P : Program} {ops : Array Oper} {S : World → Prop} {o : Oper} {a : Act} (hw : Region.wanted o (yielded ops a.tmps) = true) (t : TypeId) (parts : Array (Nat × Operand)) (ho : o.op = .build t parts)
    (cells : Array Value) (ps : List (Nat × Value)) (hp : (parts.map fun (i, x) => (i, a.eval x)).toList = ps) (hc : P.built t ps = some cells) : YieldsIf P ops S o (.agg cells) a :=
  .inl ⟨hw, fun w _ => by
    subst hp
    unfold execOp
    simp only [ho, Sem.run_bind, run_build w t _ cells hc, Result.andThen_ok]
    rfl⟩

/-- the one operation that may come up is a store of a whole struct into the middle of a block -/
theorem anyH_store_mid {P : Program} {ops : Array Oper} {Q : Exit → Act → World → Prop} {md : Region.Mode} {S : World → Prop} {i : Nat} {o : Oper} {fuel : Nat} {listed : Array Bool} {a : Act} {w : World}
    (ho : ops[i]? = some o) (hr : Region.ready md ops listed = [i]) (hw : Region.wanted o (yielded ops a.tmps) = true)
    (ty : TypeId) (x y : Operand) (hop : o.op = .store ty x y) (b off : Nat) (cells : Array Value) (hx : a.eval x = .pointer (some ⟨b, off, none⟩)) (hy : a.eval y = .agg cells)
    (ht : w.there b off cells.size) (hi : (P.info? ty).map (·.size) = some cells.size) (h1 : cells.all (·.oneCell') = true) (hS : S (w.setCells b off cells.toList))
    (h : wpAnyH P md ops Q S fuel (listed.setIfInBounds i true) (a.put o.dst undef) (w.setCells b off cells.toList)) : wpAnyH P md ops Q S (fuel + 1) listed a w :=
  anyH_one hr ho hw fun K' hK' => wp_store_mid ty x y hop b off cells hx hy ht hi h1 (hK' _ _ hS h)

/-- what is known of a message -/
def Msg (ml : List Value) (c : Nat) (s q : Int) : Prop :=
  ml.length = 18 ∧ ml[1]? = some (.int .i64 (c : Int)) ∧ ml[2]? = some (.int .u64 s) ∧ ml[3]? = some (.int .u64 q) ∧ ml[17]? = some (.slice none 0 0) ∧ ∀ v ∈ ml, v.oneCell' = true
theorem arr {ml : List Value} {i : Nat} {v : Value} (h : ml[i]? = some v) : ml.toArray[i]? = some v := by rw [List.getElem?_toArray]; exact h
theorem set_same {ml : List Value} {i : Nat} {v : Value} (h : ml[i]? = some v) : ml.toArray.setIfInBounds i v = ml.toArray := by
  apply Array.ext_getElem?
  intro j
  rw [Array.getElem?_setIfInBounds]
  by_cases hj : i = j
  · subst hj
    have hi : i < ml.length := by
      rcases Nat.lt_or_ge i ml.length with h1 | h1
      · exact h1
      · rw [List.getElem?_eq_none h1] at h; cases h
    rw [if_pos rfl, List.getElem?_toArray, h, if_pos (by simpa using hi)]
  · rw [if_neg hj]

theorem ask_msg (g c : Nat) (ml rl : List Value) (s q p : Int) (w : World) (hc : c < 8) (hs : (s == 0) = false) (hm : Msg ml c s q) (hr : Msg rl c s p ∨ rl = zmsg)
    (hrow : CRow w g c s p rl) (hq0 : 0 ≤ q) (hqw : 0 < q → IntKind.u64.wrap (q - 1) = q - 1) :
    Calls Try.prog 8 #[.pointer (some ⟨g, 0, none⟩), .agg ml.toArray] w fun e w' => e = .returned (askR p q rl) ∧ Below w.heap.size w w' := by
  have h2 : rl.length = 18 ∧ rl[17]? = some (.slice none 0 0) ∧ ∀ v ∈ rl, v.oneCell' = true := by
    rcases hr with hr | rfl
    · exact ⟨hr.1, hr.2.2.2.2⟩
    · exact ⟨rfl, rfl, zmsg_one'⟩
  exact ask_in g c ml.toArray rl s q p w hc hs (arr hm.2.1) (arr hm.2.2.1) (arr hm.2.2.2.1) hrow.1 hq0 hqw h2.1 h2.2.1 h2.2.2

set_option maxRecDepth 100000 in
set_option maxHeartbeats 1500000 in
theorem save_fresh (g c : Nat) (ml rl : List Value) (s q p : Int) (w : World) (hc : c < 8) (hs : (s == 0) = false) (hm : Msg ml c s q) (hr : Msg rl c s p ∨ rl = zmsg)
    (hrow : CRow w g c s p rl) (hq0 : 0 ≤ q) (hqw : 0 < q → IntKind.u64.wrap (q - 1) = q - 1) (hf : 0 < q ∧ q - 1 = p) :
    Calls Try.prog 9 #[.pointer (some ⟨g, 0, none⟩), .agg ml.toArray] w (Wrote w g c s q ml 0) := by
  have HA := hide (ask_msg g c ml rl s q p (w.alloc (.cells ml.toArray 33)) hc hs hm hr (hrow.below ((Below.refl _ _).alloc (Nat.le_refl _) _) hrow.2.2) hq0 hqw)
  have HE : Hid (askR p q rl = .tuple #[.int .i64 1, .agg zmsg.toArray]) := show _ = _ by unfold askR; rw [if_pos hf]
  have HM := Lib.hid hm
  have HW := Lib.hid hrow
  have hgw := hrow.2.2
  have hc0 : (0 : Int) ≤ (c : Int) := by omega
  have hc8 : (c : Int) < 8 := by omega
  have hi : (Try.prog.info? 33).map (·.size) = some ml.toArray.size := by rw [size33]; simp [hm.1]
  have HI := Lib.hid hi
  clear hm hr hrow hqw hf hi
  go_enter Try.func9, Try.ntmps9
  go_wp2_with (first
    | (refine wpList_load_row rfl 33 (.tmp 3) rfl w.heap.size rfl 33 ml.toArray (0, 0) _ (Blk.new w 33 ml.toArray) Try.underlying33 rfl HI.out ?_)
    | (go_at_call 8; refine (unhide HA).mono ?_; rw [HE.out]; rintro e w2 ⟨rfl, hb2⟩
       have b2 := (Blk.new w 33 ml.toArray).below hb2 (by simp)
       have hbw2 := ((Below.refl _ _).alloc (Nat.le_refl w.heap.size) (.cells ml.toArray 33)).trans (hb2.mono (by simp)))
    | (refine wpList_store_last rfl 33 (.tmp 6) (.tmp 14) rfl zmsg.toArray zmsg.toArray 33 rfl rfl zmsg_size rfl zmsg_one ?_
       intro X bX hX hXs
       have b3 := b2.below hX b2.lt
       have hbX := hbw2.trans (hX.mono hbw2.size)
       have c17 : X.cell? ⟨w.heap.size, 17, none⟩ = some (.slice none 0 0) := (b3.cell 17).trans (arr HM.out.2.2.2.2.1)
       have d17 := b3.frozen 17)
    | (go_at_call 15; refine (clone_nil _).mono ?_; rintro e w' ⟨rfl, rfl⟩))
  have bY : Blk (X.setCell ⟨w.heap.size, 17, none⟩ (.slice none 0 0)) w.heap.size 33 ml.toArray := by
    have h := b3.set_ 17 (.slice none 0 0)
    rwa [set_same HM.out.2.2.2.2.1] at h
  have hbY : Below w.heap.size w (X.setCell ⟨w.heap.size, 17, none⟩ (.slice none 0 0)) := hbX.setCell (p := ⟨w.heap.size, 17, none⟩) (Nat.le_refl _) _
  generalize X.setCell ⟨w.heap.size, 17, none⟩ (.slice none 0 0) = Y at *
  have hrow := HW.out.below hbY hgw
  have HT := Lib.hid hrow.2.1
  have hgY := hrow.2.2
  clear hrow b3 b2 bX
  have rng : ∀ w1 : World, Blk w1 w.heap.size 33 ml.toArray → w1.rangeAt w.heap.size 0 ml := fun w1 h j v hv => by
    rw [h.cell, List.getElem?_toArray, Nat.zero_add]; exact hv
  have hS0 : Blk Y.drew w.heap.size 33 ml.toArray := bY.drew
  have HL := Lib.hid HM.out.1
  have g1 : ∀ w1 : World, Blk w1 w.heap.size 33 ml.toArray → w1.cell? ⟨w.heap.size, 1, none⟩ = some (.int .i64 (c : Int)) := fun w1 h => (h.cell 1).trans (arr HM.out.2.1)
  have g2 : ∀ w1 : World, Blk w1 w.heap.size 33 ml.toArray → w1.cell? ⟨w.heap.size, 2, none⟩ = some (.int .u64 s) := fun w1 h => (h.cell 2).trans (arr HM.out.2.2.1)
  have g3 : ∀ w1 : World, Blk w1 w.heap.size 33 ml.toArray → w1.cell? ⟨w.heap.size, 3, none⟩ = some (.int .u64 q) := fun w1 h => (h.cell 3).trans (arr HM.out.2.2.2.1)
  have G1 := hide g1
  have G2 := hide g2
  have G3 := hide g3
  clear g1 g2 g3
  refine wp_region_held (S := fun w' => Blk w' w.heap.size 33 ml.toArray) (by kernel_rfl) ?_
  refine wpAnyH_take (i := 0) rfl (by kernel_rfl) (by kernel_rfl) (by kernel_rfl) (fun _ _ _ h => h) (.inl ⟨by kernel_rfl, fun w1 hw1 => by go_simp; rfl⟩) hS0 ?_
  refine wpAnyH_take (i := 1) rfl (by kernel_rfl) (by kernel_rfl) (by kernel_rfl) (fun _ _ _ h => h) (.inl ⟨by kernel_rfl, fun w1 hw1 => by go_simp; rfl⟩) hS0 ?_
  refine wpAnyH_take (i := 2) rfl (by kernel_rfl) (by kernel_rfl) (by kernel_rfl) (fun _ _ _ h => h) (.inl ⟨by kernel_rfl, fun w1 hw1 => by have e2 := unhide G1 w1 hw1; go_simp; rfl⟩) hS0 ?_
  refine wpAnyH_take (i := 3) rfl (by kernel_rfl) (by kernel_rfl) (by kernel_rfl) (fun _ _ _ h => h) (.inl ⟨by kernel_rfl, fun w1 hw1 => by go_simp; rfl⟩) hS0 ?_
  refine wpAnyH_take (i := 4) rfl (by kernel_rfl) (by kernel_rfl) (by kernel_rfl) (fun _ _ _ h => h) (.inl ⟨by kernel_rfl, fun w1 hw1 => by have e2 := unhide G2 w1 hw1; go_simp; rfl⟩) hS0 ?_
  refine wpAnyH_take (i := 5) rfl (by kernel_rfl) (by kernel_rfl) (by kernel_rfl) (fun _ _ _ h => h) (.inl ⟨by kernel_rfl, fun w1 hw1 => by go_simp; rfl⟩) hS0 ?_
  refine wpAnyH_take (i := 6) rfl (by kernel_rfl) (by kernel_rfl) (by kernel_rfl) (fun _ _ _ h => h) (.inl ⟨by kernel_rfl, fun w1 hw1 => by have e2 := unhide G3 w1 hw1; go_simp; rfl⟩) hS0 ?_
  refine wpAnyH_take (i := 7) rfl (by kernel_rfl) (by kernel_rfl) (by kernel_rfl) (fun _ _ _ h => h) (yieldsIf_load_mid (by kernel_rfl) 33 _ rfl w.heap.size 0 (by kernel_rfl) ml _ rng Try.underlying33 rfl HI.out) hS0 ?_
  refine wpAnyH_take (i := 8) rfl (by kernel_rfl) (by kernel_rfl) (by kernel_rfl) (fun _ _ _ h => h) (yieldsIf_build (by kernel_rfl) 44 _ rfl (.int .u64 s :: .int .u64 q :: ml).toArray [(0, .int .u64 s), (1, .int .u64 q), (2, .agg ml.toArray)] (by kernel_rfl) (built44 s q ml HL.out)) hS0 ?_
  refine wpAnyH_take (i := 9) rfl (by kernel_rfl) (by kernel_rfl) (by kernel_rfl) (fun _ _ _ h => h) (.inl ⟨by kernel_rfl, fun w1 hw1 => by go_simp; rfl⟩) hS0 ?_
  refine wpAnyH_take (i := 10) rfl (by kernel_rfl) (by kernel_rfl) (by kernel_rfl) (fun _ _ _ h => h) (.inl ⟨by kernel_rfl, fun w1 hw1 => by go_simp; rfl⟩) hS0 ?_
  refine wpAnyH_take (i := 11) rfl (by kernel_rfl) (by kernel_rfl) (by kernel_rfl) (fun _ _ _ h => h) (.inl ⟨by kernel_rfl, fun w1 hw1 => by go_simp; rfl⟩) hS0 ?_
  have u1 : Y.drew.there g (c * 20) (Value.int .u64 s :: Value.int .u64 q :: ml).toArray.size := by
    have e : (Value.int .u64 s :: Value.int .u64 q :: ml).toArray.size = 20 := by simp [HL.out]
    rw [e]
    exact HT.out
  have u2 : (Try.prog.info? 44).map (·.size) = some (Value.int .u64 s :: Value.int .u64 q :: ml).toArray.size := by rw [size44]; simp [HL.out]
  have u3 := all_oneCell_toArray (row_one s q ml HM.out.2.2.2.2.2)
  have u4 : Blk (Y.drew.setCells g (c * 20) (Value.int .u64 s :: Value.int .u64 q :: ml)) w.heap.size 33 ml.toArray := ((heap_setCells g _ _ Y.drew).2 _ (by omega)).trans bY
  refine anyH_store_mid (i := 12) rfl (by kernel_rfl) (by kernel_rfl) 44 (.tmp 32) (.tmp 29) rfl g (c * 20) (Value.int .u64 s :: Value.int .u64 q :: ml).toArray (by kernel_rfl) (by kernel_rfl) u1 u2 u3 u4 ?_
  refine wpAnyH_done (by kernel_rfl) ?_ _
  go_wp2_with fail
  go_ret
  have h := wrote_of Y.drew g c s q ml 0 HL.out HT.out hgY
  exact ⟨rfl, h.2.1, ⟨h.2.2.os.trans hbY.os, h.2.2.tape.trans hbY.tape, h.2.2.output.trans hbY.output, Nat.le_trans hbY.size h.2.2.size, fun k hk hne => (h.2.2.block k (Nat.lt_of_lt_of_le hk hbY.size) hne).trans (hbY.block k hk)⟩⟩

set_option maxRecDepth 100000 in
set_option maxHeartbeats 1000000 in
theorem save_old (g c : Nat) (ml rl : List Value) (s q p : Int) (w : World) (hc : c < 8) (hs : (s == 0) = false) (hm : Msg ml c s q) (hr : Msg rl c s p ∨ rl = zmsg)
    (hrow : CRow w g c s p rl) (hq0 : 0 ≤ q) (hqw : 0 < q → IntKind.u64.wrap (q - 1) = q - 1) (hf : ¬ (0 < q ∧ q - 1 = p)) (hf2 : ¬ (0 < q ∧ q = p)) :
    Calls Try.prog 9 #[.pointer (some ⟨g, 0, none⟩), .agg ml.toArray] w fun e w' => e = .returned (.int .i64 19) ∧ Below w.heap.size w w' := by
  have HA := hide (ask_msg g c ml rl s q p (w.alloc (.cells ml.toArray 33)) hc hs hm hr (hrow.below ((Below.refl _ _).alloc (Nat.le_refl _) _) hrow.2.2) hq0 hqw)
  have HE : Hid (askR p q rl = .tuple #[.int .i64 3, .agg zmsg.toArray]) := show _ = _ by unfold askR; rw [if_neg hf, if_neg hf2]
  have hi : (Try.prog.info? 33).map (·.size) = some ml.toArray.size := by rw [size33]; simp [hm.1]
  have HI := Lib.hid hi
  clear hm hr hrow hqw hf hi hf2
  go_enter Try.func9, Try.ntmps9
  go_wp2_with (first
    | (refine wpList_load_row rfl 33 (.tmp 3) rfl w.heap.size rfl 33 ml.toArray (0, 0) _ (Blk.new w 33 ml.toArray) Try.underlying33 rfl HI.out ?_)
    | (go_at_call 8; refine (unhide HA).mono ?_; rw [HE.out]; rintro e w2 ⟨rfl, hb2⟩
       have hbw2 := ((Below.refl _ _).alloc (Nat.le_refl w.heap.size) (.cells ml.toArray 33)).trans (hb2.mono (by simp)))
    | (refine wpList_store_last rfl 33 (.tmp 6) (.tmp 14) rfl zmsg.toArray zmsg.toArray 33 rfl rfl zmsg_size rfl zmsg_one ?_
       intro X bX hX hXs
       have hbX := hbw2.trans (hX.mono hbw2.size)))
  go_ret
  exact ⟨rfl, hbX⟩

end Go.Proofs.Ytchddfodgibpjaa
