/- Contracts of the replies cache: in, Session, New, Clone of nil, Ask. -/
import Derived.Test.YtchddfodgibpjaaWords
import Derived.WalkKit
import Derived.WalkSpells
import Derived.WalkLawsBesides
import Derived.Outline
import Derived.Below
import Derived.BigQuiet
import Derived.BigRegion
import Derived.IntWalk
import Derived.Deep.MidRow
namespace Go.Proofs.Ytchddfodgibpjaa
open Go.RowKit
set_option linter.unusedVariables false

theorem Blk.new2 (w : World) (o : Obj) (t : TypeId) (cs : Array Value) : Blk ((w.alloc o).alloc (.cells cs t)) (w.heap.size + 1) t cs := by
  have := Blk.new (w.alloc o) t cs
  simpa using this

theorem in_any (t : Int) (w : World) :
    Calls Try.prog 14 #[.int .i64 t] w fun e w' => e = .returned (.bool (decide (0 ≤ t ∧ t < 8))) ∧ w = w' := by
  by_cases h1 : 0 ≤ t
  · by_cases h2 : t < 8
    all_goals
      simp only [h1, h2, and_true, and_false, decide_true, decide_false]
      go_enter Try.func14, Try.ntmps14
      go_wp2
      go_ret
      exact ⟨rfl, rfl⟩
  · simp only [h1, false_and, decide_false]
    go_enter Try.func14, Try.ntmps14
    go_wp2
    go_ret
    exact ⟨rfl, rfl⟩

/-- an empty message's cells -/
def zmsg : List Value := [.int .i64 0, .int .i64 0, .int .u64 0, .int .u64 0, .int .u64 0, .int .i64 0, .int .i64 0, .int .i64 0, .int .i64 0, .int .i64 0, .int .i64 0, .string ⟨#[]⟩, .string ⟨#[]⟩, .int .i64 0, .int .i64 0, .string ⟨#[]⟩, .int .u64 0, .slice none 0 0]
def zrow : List Value := [.int .u64 0, .int .u64 0] ++ zmsg
def z160 : Array Value := (zrow ++ zrow ++ zrow ++ zrow ++ zrow ++ zrow ++ zrow ++ zrow).toArray
theorem zero47 (w : World) : (zeroValue 47).run Try.prog w = .ok (.agg z160) w := by kernel_rfl
theorem zero33 (w : World) : (zeroValue 33).run Try.prog w = .ok (.agg zmsg.toArray) w := by kernel_rfl
theorem zero44 (w : World) : (zeroValue 44).run Try.prog w = .ok (.agg zrow.toArray) w := by kernel_rfl

theorem new_any (w : World) : Calls Try.prog 5 #[] w fun e w' => e = .returned (.pointer (some ⟨w.heap.size, 0, none⟩)) ∧ w' = w.alloc (.cells z160 47) := by
  have q := zero47
  go_enter Try.func5, Try.ntmps5
  go_wp2
  go_ret
  exact ⟨rfl, rfl⟩

theorem session_nil (t : Int) (w : World) : Calls Try.prog 13 #[.pointer none, .int .i64 t] w fun e w' => e = .returned (.int .u64 0) ∧ w = w' := by
  go_enter Try.func13, Try.ntmps13
  go_wp2
  go_ret
  exact ⟨rfl, rfl⟩

theorem session_in (g c : Nat) (s : Int) (w : World) (hc : c < 8) (h : w.cell? ⟨g, c * 20, none⟩ = some (.int .u64 s)) :
    Calls Try.prog 13 #[.pointer (some ⟨g, 0, none⟩), .int .i64 (c : Int)] w fun e w' => e = .returned (.int .u64 s) ∧ w = w' := by
  have hd : decide (0 ≤ (c : Int) ∧ (c : Int) < 8) = true := by rw [decide_eq_true_iff]; omega
  have h0 : (0 : Int) ≤ (c : Int) := by omega
  have h8 : (c : Int) < 8 := by omega
  go_enter Try.func13, Try.ntmps13
  go_wp2_with (go_at_call 14; refine (in_any _ _).mono ?_; rw [hd]; rintro e w' ⟨rfl, rfl⟩)
  go_ret
  exact ⟨rfl, rfl⟩

theorem clone_nil (w : World) : Calls Try.prog 15 #[.slice none 0 0] w fun e w' => e = .returned (.slice none 0 0) ∧ w = w' := by
  have hn := fun W : World => Lib.run_eql_slice_nil (P := Try.prog) W 31 51 none 0 0 0 0 Try.underlying31
  go_enter Try.func15, Try.ntmps15
  go_wp2
  go_ret
  exact ⟨rfl, rfl⟩

theorem size33 : (Try.prog.info? 33).map (·.size) = some 18 := by kernel_rfl
theorem size44 : (Try.prog.info? 44).map (·.size) = some 20 := by kernel_rfl

/-- a message of which client, session, seq and version alone are told -/
def mk (c s q v : Int) : List Value := [.int .i64 0, .int .i64 c, .int .u64 s, .int .u64 q, .int .u64 0, .int .i64 0, .int .i64 0, .int .i64 0, .int .i64 0, .int .i64 0, .int .i64 0, .string ⟨#[]⟩, .string ⟨#[]⟩, .int .i64 0, .int .i64 0, .string ⟨#[]⟩, .int .u64 v, .slice none 0 0]
theorem mk_zero : mk 0 0 0 0 = zmsg := rfl
def mkA (c s q v : Int) : Array Value := (mk c s q v).toArray

theorem results_tmp_cell {P : Program} {fn : Func} {u p : Tmp} {ty : TypeId} (h : fn.results = #[.tmp u, .cell p ty]) (tmps : Array Value) (w : World) (g : Nat) (t : TypeId) (cs : Array Value) (fr : Nat × Nat) (d : TypeDesc)
    (hp : tmps.getD p undef = .pointer (some ⟨g, 0, none⟩)) (hg : w.heap[g]? = some (.cells cs t fr))
    (hu : P.underlying ty = some d) (hd : (match d with | .struct _ | .array _ _ => true | _ => false) = true) (hi : (P.info? ty).map (·.size) = some cs.size) :
    (results fn tmps).run P w = .ok (.tuple #[tmps.getD u undef, .agg cs]) w := by
  have hp' : tmps[p]?.getD undef = .pointer (some ⟨g, 0, none⟩) := by simpa using hp
  simp [results, h, hp', asAddr, run_loadVar_row w g t ty cs fr d hg hu hd hi]
theorem Blk.row {w : World} {g : Nat} {t : TypeId} {cs : Array Value} (h : Blk w g t cs) (cs' : Array Value) : Blk (w.setRow g cs') g t cs' := setRow_heap w g cs cs' t (0, 0) h
theorem Blk.row_far {w : World} {g k : Nat} {t : TypeId} {cs : Array Value} (h : Blk w g t cs) (hne : g ≠ k) (cs' : Array Value) : Blk (w.setRow k cs') g t cs := (setRow_other w k g cs' hne).trans h
theorem below_row {B k : Nat} {a w : World} (h : Below B a w) (hB : B ≤ k) (cs : Array Value) : Below B a (w.setRow k cs) :=
  h.trans ⟨rfl, rfl, rfl, by simp, fun i hi => setRow_other w k i cs (by omega)⟩
theorem rangeAt_below {w w' : World} {B g o : Nat} {cs : List Value} (h : w.rangeAt g o cs) (hb : Below B w w') (hg : g < B) : w'.rangeAt g o cs := fun j v hv => (hb.cell (p := ⟨g, o + j, none⟩) hg).trans (h j v hv)
theorem there_below {w w' : World} {B g o n : Nat} (h : w.there g o n) (hb : Below B w w') (hg : g < B) : w'.there g o n := fun j hj => by
  rw [hb.cell (p := ⟨g, o + j, none⟩) hg, hb.frozen (p := ⟨g, o + j, none⟩) hg]
  exact h j hj

end Go.Proofs.Ytchddfodgibpjaa
