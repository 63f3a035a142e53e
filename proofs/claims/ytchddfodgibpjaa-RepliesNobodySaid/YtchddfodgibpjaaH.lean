/- Same of two empty messages is true. -/
import Derived.Test.YtchddfodgibpjaaG
import Derived.Deep.Cut
namespace Go.Proofs.Ytchddfodgibpjaa
open Go.RowKit
set_option linter.unusedVariables false
set_option maxRecDepth 100000 in
set_option maxHeartbeats 2000000 in
theorem same_zero (w : World) : Calls Try.prog 11 #[.agg zmsg.toArray, .agg zmsg.toArray] w fun e w' => e = .returned (.bool true) ∧ Below w.heap.size w w' := by
  go_enter Try.func11, Try.ntmps11
  go_upto_region 1 with (fail)
  have hB0 : Below w.heap.size w ((w.alloc (.cells zmsg.toArray 33)).alloc (.cells zmsg.toArray 33)) := ((Below.refl _ _).alloc (Nat.le_refl _) _).alloc (by simp) _
  have b2 : Blk ((w.alloc (.cells zmsg.toArray 33)).alloc (.cells zmsg.toArray 33)) w.heap.size 33 zmsg.toArray := (Blk.new w _ _).alloc _
  have b3 : Blk ((w.alloc (.cells zmsg.toArray 33)).alloc (.cells zmsg.toArray 33)) (w.heap.size + 1) 33 zmsg.toArray := Blk.new2 w _ _ _
  generalize (w.alloc (.cells zmsg.toArray 33)).alloc (.cells zmsg.toArray 33) = W at hB0 b2 b3 ⊢
  generalize w.heap.size + 1 = B3 at b3 ⊢
  have c2_0 : W.cell? ⟨w.heap.size, 0, none⟩ = some (.int .i64 0) := b2.cell 0
  have c2_1 : W.cell? ⟨w.heap.size, 1, none⟩ = some (.int .i64 0) := b2.cell 1
  have c2_2 : W.cell? ⟨w.heap.size, 2, none⟩ = some (.int .u64 0) := b2.cell 2
  have c2_3 : W.cell? ⟨w.heap.size, 3, none⟩ = some (.int .u64 0) := b2.cell 3
  have c2_4 : W.cell? ⟨w.heap.size, 4, none⟩ = some (.int .u64 0) := b2.cell 4
  have c2_5 : W.cell? ⟨w.heap.size, 5, none⟩ = some (.int .i64 0) := b2.cell 5
  have c2_6 : W.cell? ⟨w.heap.size, 6, none⟩ = some (.int .i64 0) := b2.cell 6
  have c2_7 : W.cell? ⟨w.heap.size, 7, none⟩ = some (.int .i64 0) := b2.cell 7
  have c2_8 : W.cell? ⟨w.heap.size, 8, none⟩ = some (.int .i64 0) := b2.cell 8
  have c2_9 : W.cell? ⟨w.heap.size, 9, none⟩ = some (.int .i64 0) := b2.cell 9
  have c2_10 : W.cell? ⟨w.heap.size, 10, none⟩ = some (.int .i64 0) := b2.cell 10
  have c2_11 : W.cell? ⟨w.heap.size, 11, none⟩ = some (.string ⟨#[]⟩) := b2.cell 11
  have c2_12 : W.cell? ⟨w.heap.size, 12, none⟩ = some (.string ⟨#[]⟩) := b2.cell 12
  have c2_13 : W.cell? ⟨w.heap.size, 13, none⟩ = some (.int .i64 0) := b2.cell 13
  have c2_14 : W.cell? ⟨w.heap.size, 14, none⟩ = some (.int .i64 0) := b2.cell 14
  have c2_15 : W.cell? ⟨w.heap.size, 15, none⟩ = some (.string ⟨#[]⟩) := b2.cell 15
  have c2_16 : W.cell? ⟨w.heap.size, 16, none⟩ = some (.int .u64 0) := b2.cell 16
  have c2_17 : W.cell? ⟨w.heap.size, 17, none⟩ = some (.slice none 0 0) := b2.cell 17
  have c3_0 : W.cell? ⟨B3, 0, none⟩ = some (.int .i64 0) := b3.cell 0
  have c3_1 : W.cell? ⟨B3, 1, none⟩ = some (.int .i64 0) := b3.cell 1
  have c3_2 : W.cell? ⟨B3, 2, none⟩ = some (.int .u64 0) := b3.cell 2
  have c3_3 : W.cell? ⟨B3, 3, none⟩ = some (.int .u64 0) := b3.cell 3
  have c3_4 : W.cell? ⟨B3, 4, none⟩ = some (.int .u64 0) := b3.cell 4
  have c3_5 : W.cell? ⟨B3, 5, none⟩ = some (.int .i64 0) := b3.cell 5
  have c3_6 : W.cell? ⟨B3, 6, none⟩ = some (.int .i64 0) := b3.cell 6
  have c3_7 : W.cell? ⟨B3, 7, none⟩ = some (.int .i64 0) := b3.cell 7
  have c3_8 : W.cell? ⟨B3, 8, none⟩ = some (.int .i64 0) := b3.cell 8
  have c3_9 : W.cell? ⟨B3, 9, none⟩ = some (.int .i64 0) := b3.cell 9
  have c3_10 : W.cell? ⟨B3, 10, none⟩ = some (.int .i64 0) := b3.cell 10
  have c3_11 : W.cell? ⟨B3, 11, none⟩ = some (.string ⟨#[]⟩) := b3.cell 11
  have c3_12 : W.cell? ⟨B3, 12, none⟩ = some (.string ⟨#[]⟩) := b3.cell 12
  have c3_13 : W.cell? ⟨B3, 13, none⟩ = some (.int .i64 0) := b3.cell 13
  have c3_14 : W.cell? ⟨B3, 14, none⟩ = some (.int .i64 0) := b3.cell 14
  have c3_15 : W.cell? ⟨B3, 15, none⟩ = some (.string ⟨#[]⟩) := b3.cell 15
  have c3_16 : W.cell? ⟨B3, 16, none⟩ = some (.int .u64 0) := b3.cell 16
  have c3_17 : W.cell? ⟨B3, 17, none⟩ = some (.slice none 0 0) := b3.cell 17
  clear b2 b3
  go_wp2_with (go_at_call 17; refine (ents_nil _).mono ?_; rintro e w' ⟨rfl, rfl⟩)
  go_ret
  exact ⟨rfl, hB0⟩
end Go.Proofs.Ytchddfodgibpjaa
