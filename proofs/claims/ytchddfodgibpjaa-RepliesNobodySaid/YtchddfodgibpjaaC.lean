/- Contracts of the replies cache's Open and Save, and of its calls on nil. Conditions: as Ask's. -/
import Derived.Test.YtchddfodgibpjaaB
namespace Go.Proofs.Ytchddfodgibpjaa
open Go.RowKit
set_option linter.unusedVariables false

theorem open_nil (c s : Int) (w : World) : Calls Try.prog 6 #[.pointer none, .int .i64 c, .int .u64 s] w fun e w' => e = .returned (.int .i64 1) ∧ w = w' := by
  go_enter Try.func6, Try.ntmps6
  go_wp2_with fail
  go_ret
  exact ⟨rfl, rfl⟩
theorem shut_nil (c : Int) (w : World) : Calls Try.prog 12 #[.pointer none, .int .i64 c] w fun e w' => e = .returned (.int .i64 1) ∧ w = w' := by
  go_enter Try.func12, Try.ntmps12
  go_wp2_with fail
  go_ret
  exact ⟨rfl, rfl⟩
theorem save_nil (mc : Array Value) (w : World) : Calls Try.prog 9 #[.pointer none, .agg mc] w fun e w' => e = .returned (.int .i64 1) ∧ Below w.heap.size w w' := by
  go_enter Try.func9, Try.ntmps9
  go_wp2_with fail
  go_ret
  exact ⟨rfl, (Below.refl _ _).alloc (Nat.le_refl _) _⟩

theorem open_bad (g : Nat) (c s : Int) (w : World) (hs : 0 ≤ s) (h : ¬ (0 ≤ c ∧ c < 8 ∧ 1 ≤ s ∧ s ≤ 1099511627775)) :
    Calls Try.prog 6 #[.pointer (some ⟨g, 0, none⟩), .int .i64 c, .int .u64 s] w fun e w' => e = .returned (.int .i64 2) ∧ w = w' := by
  by_cases h1 : 0 ≤ c ∧ c < 8
  · have hd : decide (0 ≤ c ∧ c < 8) = true := decide_eq_true h1
    by_cases h2 : 1 ≤ s
    · have h3 : 1099511627775 < s := by omega
      have h4 : decide (1099511627775 < s) = true := decide_eq_true h3
      clear h h1
      go_enter Try.func6, Try.ntmps6
      go_wp2_with (go_at_call 14; refine (in_any _ _).mono ?_; rw [hd]; rintro e w' ⟨rfl, rfl⟩)
      go_ret
      exact ⟨rfl, rfl⟩
    · have h3 : s < 1 := by omega
      clear h h1
      go_enter Try.func6, Try.ntmps6
      go_wp2_with (go_at_call 14; refine (in_any _ _).mono ?_; rw [hd]; rintro e w' ⟨rfl, rfl⟩)
      go_ret
      exact ⟨rfl, rfl⟩
  · have hd : decide (0 ≤ c ∧ c < 8) = false := decide_eq_false h1
    clear h h1
    go_enter Try.func6, Try.ntmps6
    go_wp2_with (go_at_call 14; refine (in_any _ _).mono ?_; rw [hd]; rintro e w' ⟨rfl, rfl⟩)
    go_ret
    exact ⟨rfl, rfl⟩

/-- the row of a client in the cache at g: its session, its last seq, its last reply -/
def CRow (w : World) (g c : Nat) (s p : Int) (rl : List Value) : Prop :=
  w.rangeAt g (c * 20) (.int .u64 s :: .int .u64 p :: rl) ∧ w.there g (c * 20) 20 ∧ g < w.heap.size
theorem CRow.below {w w' : World} {g c B : Nat} {s p : Int} {rl : List Value} (h : CRow w g c s p rl) (hb : Below B w w') (hg : g < B) : CRow w' g c s p rl :=
  ⟨rangeAt_below h.1 hb hg, there_below h.2.1 hb hg, Nat.lt_of_lt_of_le h.2.2 hb.size⟩

theorem there_new (w : World) (c : Nat) (hc : c < 8) : (w.alloc (.cells z160 47)).there w.heap.size (c * 20) 20 := fun j hj => by
  have hb := Blk.new w 47 z160
  rw [hb.cell, hb.frozen]
  have hs : z160.size = 160 := by rfl
  rw [Array.getElem?_eq_getElem (by omega)]
  exact ⟨rfl, rfl⟩

theorem heap_setCells (b : Nat) : ∀ (vs : List Value) (o : Nat) (w : World), (w.setCells b o vs).heap.size = w.heap.size ∧ ∀ k, k ≠ b → (w.setCells b o vs).heap[k]? = w.heap[k]?
  | [], _, w => ⟨rfl, fun _ _ => rfl⟩
  | v :: vs, o, w => by
    have ih := heap_setCells b vs (o + 1) (w.setCell ⟨b, o, none⟩ v)
    refine ⟨ih.1.trans (by simp [World.setCell]), fun k hk => (ih.2 k hk).trans (Below.heap_setCell w ⟨b, o, none⟩ v k hk)⟩
theorem same_setCells (b : Nat) : ∀ (vs : List Value) (o : Nat) (w : World), (w.setCells b o vs).os = w.os ∧ (w.setCells b o vs).tape = w.tape ∧ (w.setCells b o vs).output = w.output
  | [], _, w => ⟨rfl, rfl, rfl⟩
  | v :: vs, o, w => same_setCells b vs (o + 1) (w.setCell ⟨b, o, none⟩ v)
theorem below_setCells {B b : Nat} {a w : World} (h : Below B a w) (hB : B ≤ b) (o : Nat) (vs : List Value) : Below B a (w.setCells b o vs) := by
  have h1 := heap_setCells b vs o w
  have h2 := same_setCells b vs o w
  exact h.trans ⟨h2.1, h2.2.1, h2.2.2, by rw [h1.1]; exact Nat.le_refl _, fun k hk => h1.2 k (by omega)⟩
theorem only_setCells (w : World) (b o : Nat) (vs : List Value) : w.grownBy (w.setCells b o vs) (some b) := by
  have h1 := heap_setCells b vs o w
  have h2 := same_setCells b vs o w
  exact ⟨h2.1, h2.2.1, h2.2.2, by rw [h1.1]; exact Nat.le_refl _, fun k hk hne => h1.2 k (fun e => hne (by rw [e]))⟩

theorem row_one (s p : Int) (ml : List Value) (ho : ∀ v ∈ ml, v.oneCell' = true) : ∀ v ∈ Value.int .u64 s :: Value.int .u64 p :: ml, v.oneCell' = true := by
  intro v hv
  rcases List.mem_cons.1 hv with rfl | hv
  · rfl
  · rcases List.mem_cons.1 hv with rfl | hv
    · rfl
    · exact ho v hv
theorem zmsg_one' : ∀ v ∈ zmsg, v.oneCell' = true := by simp [zmsg, Value.oneCell']

/-- a row is written: nothing but block g has turned -/
def Wrote (w : World) (g c : Nat) (s p : Int) (ml : List Value) (n : Int) (e : Ending) (w' : World) : Prop :=
  e = .returned (.int .i64 n) ∧ CRow w' g c s p ml ∧ w.grownBy w' (some g)
theorem wrote_of (w : World) (g c : Nat) (s p : Int) (ml : List Value) (n : Int) (hl : ml.length = 18) (ht : w.there g (c * 20) 20) (hg : g < w.heap.size) :
    Wrote w g c s p ml n (.returned (.int .i64 n)) (w.setCells g (c * 20) (.int .u64 s :: .int .u64 p :: ml)) := by
  have h1 := heap_setCells g (.int .u64 s :: .int .u64 p :: ml) (c * 20) w
  exact ⟨rfl, ⟨World.rangeAt_setCells_same w g _ _ (fun j hj => ht j (by simp at hj; omega)), fun j hj => World.there_setCells (n := 20) ht _ _ _ j hj, by rw [h1.1]; exact hg⟩, only_setCells _ _ _ _⟩

set_option maxHeartbeats 400000 in
theorem open_ok (g c : Nat) (s : Int) (w : World) (hc : c < 8) (hs : 1 ≤ s) (hs2 : s ≤ 1099511627775) (ht : w.there g (c * 20) 20) (hg : g < w.heap.size) :
    Calls Try.prog 6 #[.pointer (some ⟨g, 0, none⟩), .int .i64 (c : Int), .int .u64 s] w (Wrote w g c s 0 zmsg 0) := by
  have hd : decide (0 ≤ (c : Int) ∧ (c : Int) < 8) = true := decide_eq_true (by omega)
  have hc0 : (0 : Int) ≤ (c : Int) := by omega
  have hc8 : (c : Int) < 8 := by omega
  have h4 : decide (1099511627775 < s) = false := decide_eq_false (by omega)
  have hi : (Try.prog.info? 44).map (·.size) = some (Value.int .u64 s :: Value.int .u64 0 :: zmsg).toArray.size := size44
  have HI := Lib.hid hi
  have HT := Lib.hid ht
  have hone := all_oneCell_toArray (row_one s 0 zmsg zmsg_one')
  clear hi ht
  go_enter Try.func6, Try.ntmps6
  go_wp2_with (first
    | (go_at_call 14; refine (in_any _ _).mono ?_; rw [hd]; rintro e w' ⟨rfl, rfl⟩)
    | (refine wpList_store_mid rfl 44 (.tmp 28) (.tmp 25) rfl g (c * 20) (Value.int .u64 s :: Value.int .u64 0 :: zmsg).toArray rfl rfl HT.out HI.out hone ?_))
  go_ret
  exact wrote_of w g c s 0 zmsg 0 rfl HT.out hg

end Go.Proofs.Ytchddfodgibpjaa
