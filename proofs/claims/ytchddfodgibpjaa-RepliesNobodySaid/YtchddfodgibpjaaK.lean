/- The walk of RepliesNobody: it returns true and writes nothing that was there. Conditions: the message reads as data. -/
import Derived.Test.YtchddfodgibpjaaJ
namespace Go.Proofs.Ytchddfodgibpjaa
open Go.RowKit
set_option linter.unusedVariables false

theorem IsM.below {w w' : World} {B : Nat} {mc : Array Value} {c : Int} {s11 s12 s15 : ByteArray} {A : Option Addr} {len cap : Nat} (h : IsM w mc c s11 s12 s15 A len cap) (hb : Below B w w') (hB : w.heap.size ≤ B) : IsM w' mc c s11 s12 s15 A len cap :=
  ⟨h.sz, h.one, h.c1, h.c11, h.c12, h.c15, h.l11, h.l12, h.l15, h.c17, h.le, fun k hk => by
    obtain ⟨x, o, s, z1, z2, z3, e, he⟩ := h.ents k hk
    exact ⟨x, o, s, z1, z2, z3, e, he.below hb (Nat.lt_of_lt_of_le he.lt hB)⟩⟩

set_option maxRecDepth 100000 in
set_option maxHeartbeats 2000000 in
theorem nobody_walk (mc : Array Value) (c : Int) (s11 s12 s15 : ByteArray) (A : Option Addr) (len cap : Nat) (w : World) (hm : IsM w mc c s11 s12 s15 A len cap) :
    Calls Try.prog 4 #[.agg mc] w fun e w' => e = .returned (.bool true) ∧ Below w.heap.size w w' := by
  have hs := hm.sz
  have HSZ := Lib.hid (size33' hs)
  have hB1 : Below w.heap.size w (w.alloc (.cells mc 33)) := (Below.refl _ _).alloc (Nat.le_refl _) _
  have hS := short_msg mc c s11 s12 s15 A len cap _ (hm.below hB1 (Nat.le_refl _))
  have b1 := Blk.new w 33 mc
  have HS := hide hS
  have HSZ1 := Lib.hid hs
  clear hS hs hm
  go_enter Try.func4, Try.ntmps4
  go_upto_region 2 with (first
    | (refine wpList_load_row rfl 33 (.tmp 1) rfl w.heap.size rfl 33 mc (0, 0) _ b1 Try.underlying33 rfl HSZ.out ?_)
    | (go_at_call 10; refine (unhide HS).mono ?_; rintro e w2 ⟨mc2, rfl, z2, o2, c2, hb2⟩
       have b2 := b1.below hb2 b1.lt
       have HZ2 := Lib.hid z2
       have HO2 := Lib.hid o2
       clear z2 o2)
    | (refine wpList_store_row rfl 33 (.tmp 1) (.tmp 7) rfl w.heap.size mc2 rfl rfl 33 _ b2 (size33' HZ2.out) (by rw [HSZ1.out, HZ2.out]) HO2.out ?_))
  have b3 := b2.row mc2
  have hB3 := below_row (hB1.trans (hb2.mono (by simp))) (Nat.le_refl _) mc2
  generalize w2.setRow w.heap.size mc2 = w3 at b3 hB3 ⊢
  clear b1 b2
  go_wp2_with (first
    | (refine wpList_load_row rfl 33 (.tmp 1) rfl w.heap.size rfl 33 mc2 (0, 0) _ b3 Try.underlying33 rfl (size33' HZ2.out) ?_)
    | (go_at_call 8; refine (ask_nil mc2 c _ c2).mono ?_; rintro e w4 ⟨rfl, hb4⟩
       have b4 := b3.below hb4 b3.lt
       have hB4 := hB3.trans (hb4.mono hB3.size))
    | (refine wpList_store_new rfl 33 (.tmp 5) (.tmp 13) rfl w4.heap.size rfl zmsg.toArray zmsg.toArray 33 rfl rfl zmsg_size rfl zmsg_one ?_
       intro X5 b5 hX5 _
       have b15 := b4.below hX5 b4.lt
       have hB5 := hB4.trans (hX5.mono hB4.size))
    | (refine wpList_load_want 33 (.tmp 5) rfl w4.heap.size rfl 33 zmsg.toArray (0, 0) _ b5 Try.underlying33 rfl zmsg_size rfl ?_)
    | (go_at_call 11; refine (same_zero _).mono ?_; rintro e w6 ⟨rfl, hb6⟩
       have b6 := b15.below hb6 b15.lt
       have hB6 := hB5.trans (hb6.mono hB5.size))
    | (refine wpList_load_want 33 (.tmp 1) rfl w.heap.size rfl 33 mc2 (0, 0) _ b6 Try.underlying33 rfl (size33' HZ2.out) rfl ?_)
    | (go_at_call 9; refine (save_nil mc2 _).mono ?_; rintro e w7 ⟨rfl, hb7⟩
       have b7 := b6.below hb7 b6.lt
       have hB7 := hB6.trans (hb7.mono hB6.size)
       have c7 : w7.cell? ⟨w.heap.size, 1, none⟩ = some (.int .i64 c) := (b7.cell 1).trans c2)
    | (go_at_call 6; refine (open_nil _ _ _).mono ?_; rintro e w' ⟨rfl, rfl⟩)
    | (go_at_call 12; refine (shut_nil _ _).mono ?_; rintro e w' ⟨rfl, rfl⟩)
    | (go_at_call 13; refine (session_nil _ _).mono ?_; rintro e w' ⟨rfl, rfl⟩)
    | (go_at_call 7; refine (lives_any _).mono ?_; rintro e w8 ⟨rfl, hb8⟩))
  go_ret
  exact ⟨rfl, hB7.trans (hb8.mono hB7.size)⟩

end Go.Proofs.Ytchddfodgibpjaa
