/- lives of the replies' laws. -/
import Derived.Test.YtchddfodgibpjaaD
namespace Go.Proofs.Ytchddfodgibpjaa
open Go.RowKit
set_option linter.unusedVariables false

theorem mk_msg (c : Nat) (s q v : Int) : Msg (mk c s q v) c s q := ⟨rfl, rfl, rfl, rfl, rfl, by simp [mk, Value.oneCell']⟩
theorem mk_size (c s q v : Int) : (Try.prog.info? 33).map (·.size) = some (mk c s q v).toArray.size := size33
theorem mk_one (c s q v : Int) : (mk c s q v).toArray.all (·.oneCell') = true := all_oneCell_toArray (by simp [mk, Value.oneCell'])
/-- a whole struct is read: the operation may be guarded -/
theorem wpList_load_want {P : Program} {ops : Array Oper} {Q : Exit → Act → World → Prop} {rest : List Oper} {o : Oper} {a : Act} {w : World} (ty : TypeId) (x : Operand) (ho : o.op = .load ty x)
    (g : Nat) (hx : a.eval x = .pointer (some ⟨g, 0, none⟩)) (t : TypeId) (cs : Array Value) (fr : Nat × Nat) (d : TypeDesc) (hg : w.heap[g]? = some (.cells cs t fr))
    (hu : P.underlying ty = some d) (hd : (match d with | .struct _ | .array _ _ => true | _ => false) = true) (hi : (P.info? ty).map (·.size) = some cs.size)
    (hw : Region.wanted o (yielded ops a.tmps) = true)
    (h : wpList P ops Q rest (a.put o.dst (.agg cs)) w) : wpList P ops Q (o :: rest) a w :=
  BigFrame.wpList_want hw fun _ hK => wp_load_row ty x ho g hx t cs fr d hg hu hd hi (hK _ _ h)
theorem wpList_store_new {P : Program} {ops : Array Oper} {Q : Exit → Act → World → Prop} {rest : List Oper} {o : Oper} {a : Act} {w : World} (hgd : o.guard = none) (ty : TypeId) (x y : Operand) (ho : o.op = .store ty x y)
    (g : Nat) (hg : g = w.heap.size) (cells old : Array Value) (t : TypeId) (hx : a.eval x = .pointer (some ⟨g, 0, none⟩)) (hy : a.eval y = .agg cells) (hi : (P.info? ty).map (·.size) = some cells.size)
    (hold : old.size = cells.size) (h1 : cells.all (·.oneCell') = true)
    (h : ∀ X, Blk X g t cells → Below g w X → X.heap.size = g + 1 → wpList P ops Q rest (a.put o.dst undef) X) : wpList P ops Q (o :: rest) a (w.alloc (.cells old t)) := by
  subst hg
  exact wpList_store_last hgd ty x y ho cells old t hx hy hi hold h1 h

theorem below_of_only {w w' : World} {g : Nat} (h : w.grownBy w' (some g)) (hg : g ≤ w.heap.size) : Below g w w' :=
  ⟨h.os, h.tape, h.output, h.size, fun k hk => h.block k (by omega) (fun e => by injection e; omega)⟩

set_option maxRecDepth 100000 in
set_option maxHeartbeats 1000000 in
theorem lives_any (w : World) : Calls Try.prog 7 #[] w fun e w' => e = .returned (.bool true) ∧ Below w.heap.size w w' := by
  have E1 : Hid (askR 0 1 zmsg = .tuple #[.int .i64 1, .agg zmsg.toArray]) := show _ = _ by unfold askR; rw [if_pos (by omega)]
  have E2 : Hid (askR 1 1 (mk 1 2 1 0) = .tuple #[.int .i64 2, .agg (mk 1 2 1 0).toArray]) := show _ = _ by unfold askR; rw [if_neg (by omega), if_pos (by omega)]
  have hm := mk_msg 1 2 1 0
  have HM := Lib.hid hm
  have hw1 : (0 : Int) < 1 → IntKind.u64.wrap (1 - 1) = 1 - 1 := fun _ => by decide
  have HW1 := Lib.hid hw1
  clear hm hw1
  go_enter Try.func7, Try.ntmps7
  go_wp2_with (first
    | (go_at_call 5; refine (new_any _).mono ?_; rintro e w' ⟨rfl, rfl⟩)
    | (refine wpList_store_new rfl 33 (.tmp 2) (.tmp 9) rfl (w.heap.size + 1) (by simp) (mk 1 2 1 0).toArray zmsg.toArray 33 rfl rfl (mk_size _ _ _ _) rfl (mk_one _ _ _ _) ?_
       intro X bX hX hXs
       have hbX := ((Below.refl w.heap.size w).alloc (Nat.le_refl _) (.cells z160 47)).trans (hX.mono (Nat.le_succ _))
       have hth := there_below (there_new w 1 (by omega)) hX (by omega))
    | (go_at_call 6; refine (open_ok w.heap.size 1 2 _ (by omega) (by omega) (by omega) hth (by omega)).mono ?_; rintro e w3 ⟨rfl, hrow, ho3⟩
       have b3 := bX.grown ho3 (by simp)
       have hb3 := hbX.trans (below_of_only ho3 (by omega)))
    | (refine wpList_load_row rfl 33 (.tmp 2) rfl (w.heap.size + 1) rfl 33 (mk 1 2 1 0).toArray (0, 0) _ b3 Try.underlying33 rfl (mk_size _ _ _ _) ?_)
    | (go_at_call 8; refine (ask_msg w.heap.size 1 (mk 1 2 1 0) zmsg 2 1 0 _ (by omega) rfl HM.out (.inr rfl) hrow (by omega) HW1.out).mono ?_; rw [E1.out]; rintro e w4 ⟨rfl, hb4⟩
       have hrow4 := hrow.below hb4 hrow.2.2
       have b4 := b3.below hb4 b3.lt
       have hb4 := hb3.trans (hb4.mono hb3.size)
       clear hrow hth)
    | (refine wpList_store_new rfl 33 (.tmp 4) (.tmp 18) rfl w4.heap.size rfl zmsg.toArray zmsg.toArray 33 rfl rfl zmsg_size rfl zmsg_one ?_
       intro X5 _ hX5 _
       have hrow5 := hrow4.below hX5 hrow4.2.2
       have b5 := b4.below hX5 b4.lt
       have hb5 := hb4.trans (hX5.mono hb4.size))
    | (refine wpList_load_row rfl 33 (.tmp 2) rfl (w.heap.size + 1) rfl 33 (mk 1 2 1 0).toArray (0, 0) _ b5 Try.underlying33 rfl (mk_size _ _ _ _) ?_)
    | (go_at_call 9; refine (save_fresh w.heap.size 1 (mk 1 2 1 0) zmsg 2 1 0 _ (by omega) rfl HM.out (.inr rfl) hrow5 (by omega) HW1.out (by omega)).mono ?_; rintro e w6 ⟨rfl, hrow6, ho6⟩
       have b6 := b5.grown ho6 (by simp)
       have hb6 := hb5.trans ((below_of_only ho6 (by have := hrow5.2.2; omega)))
       clear hrow5 b4 b5 hrow4)
    | (refine wpList_load_row rfl 33 (.tmp 2) rfl (w.heap.size + 1) rfl 33 (mk 1 2 1 0).toArray (0, 0) _ b6 Try.underlying33 rfl (mk_size _ _ _ _) ?_)
    | (go_at_call 8; refine (ask_msg w.heap.size 1 (mk 1 2 1 0) (mk 1 2 1 0) 2 1 1 _ (by omega) rfl HM.out (.inl HM.out) hrow6 (by omega) HW1.out).mono ?_; rw [E2.out]; rintro e w7 ⟨rfl, hb7⟩
       have hrow7 := hrow6.below hb7 hrow6.2.2
       have hb7 := hb6.trans (hb7.mono hb6.size)
       clear hrow6)
    | (refine wpList_store_new rfl 33 (.tmp 7) (.tmp 27) rfl w7.heap.size rfl (mk 1 2 1 0).toArray zmsg.toArray 33 rfl rfl (mk_size _ _ _ _) rfl (mk_one _ _ _ _) ?_
       intro X8 b8 hX8 _
       have hrow8 := hrow7.below hX8 hrow7.2.2
       have hb8 := hb7.trans (hX8.mono hb7.size)
       have c8 : X8.cell? ⟨w7.heap.size, 3, none⟩ = some (.int .u64 1) := b8.cell 3
       have r8 : X8.cell? ⟨w.heap.size, 1 * 20, none⟩ = some (.int .u64 2) := hrow8.1 0 _ rfl)
    | (go_at_call 13; refine (session_in w.heap.size 1 2 _ (by omega) r8).mono ?_; rintro e w9 ⟨rfl, rfl⟩))
  go_ret
  exact ⟨rfl, hb8⟩

end Go.Proofs.Ytchddfodgibpjaa
