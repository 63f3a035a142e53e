/- Contracts for RepliesNobody: a string cut short, Ask of nobody, Same of two empty messages. A region with a tail of stores, by number. -/
import Derived.Test.YtchddfodgibpjaaE
import Derived.WalkSpells
namespace Go.Proofs.Ytchddfodgibpjaa
open Go.RowKit
set_option linter.unusedVariables false

section
variable {P : Program} {ops : Array Oper} {md : Region.Mode} {Q : Exit → Act → World → Prop} {F : World → Prop} {stop : Nat}
/-- whatever order is picked from here on; F holds as long as number `stop` has not come up -/
def anyT (P : Program) (md : Region.Mode) (ops : Array Oper) (Q : Exit → Act → World → Prop) (F : World → Prop) (stop : Nat) : Nat → Array Bool → Act → World → Prop
  | 0, listed, a, w => Region.ready md ops listed = [] ∧ Q .normal a w
  | fuel + 1, listed, a, w =>
    (Region.ready md ops listed = [] → Q .normal a w) ∧
    ∀ i ∈ Region.ready md ops listed, wpOp P ops Q i (fun a' w' => ((listed.setIfInBounds i true).getD stop true = false → F w') ∧ anyT P md ops Q F stop fuel (listed.setIfInBounds i true) a' w') a w
theorem any_of_anyT : ∀ (fuel : Nat) (listed : Array Bool) (a : Act) (w : World), anyT P md ops Q F stop fuel listed a w → wpAny P md ops Q fuel listed a w
  | 0, _, _, _, h => h
  | fuel + 1, _, _, _, h => ⟨h.1, fun i hi => wpOp_mono (fun a' w' h' => any_of_anyT fuel _ a' w' h'.2) (h.2 i hi)⟩
theorem getD_set_other (L : Array Bool) {i k : Nat} (h : i ≠ k) : (L.setIfInBounds i true).getD k true = L.getD k true := by
  simp [Array.getD_eq_getD_getElem?, Array.getElem?_setIfInBounds_ne h]
/-- number i may be taken first: it yields in every world (G is empty of content) or in every world as it stands before `stop`, which waits for i -/
theorem anyT_first {i : Nat} {oi os : Oper} {v : Value} {G : World → Prop} (hi : ops[i]? = some oi) (hsel : Region.noSelect ops = true)
    (hQ : ∀ c a w, Q (.panic c) (a.put oi.dst v) w → Q (.panic c) a w) (hFG : ∀ w, F w → G w) (hos : ops[stop]? = some os) (hne : i ≠ stop)
    (hG : (∀ w, G w) ∨ ∃ e ∈ os.after, Region.binds md e = true ∧ e.on = i) :
    ∀ (fuel : Nat) (listed : Array Bool) (a : Act) (w : World), Region.free md ops listed i = true → i ∈ Region.ready md ops listed → YieldsIf P ops G oi v a →
      ((∀ w, G w) ∨ listed.getD stop true = false) → (listed.getD stop true = false → F w) →
      anyT P md ops Q F stop fuel (listed.setIfInBounds i true) (a.put oi.dst v) w → anyT P md ops Q F stop (fuel + 1) listed a w := by
  intro fuel listed a w hfree0 hr hy hs hS H
  have hfree := Region.free_spec hi hfree0
  clear hfree0
  induction fuel generalizing listed a w with
  | zero =>
    refine ⟨fun h => (by rw [h] at hr; cases hr), fun j hj => ?_⟩
    by_cases hji : j = i
    · subst hji
      exact hy.wpOp hi (hs.elim (fun h => h w) (fun h => hFG w (hS h))) ⟨fun h => hS (by rwa [getD_set_other _ hne] at h), H⟩
    · have := ready_mono hj hji
      rw [H.1] at this
      cases this
  | succ fuel ih =>
    refine ⟨fun h => (by rw [h] at hr; cases hr), fun j hj => ?_⟩
    by_cases hji : j = i
    · subst hji
      exact hy.wpOp hi (hs.elim (fun h => h w) (fun h => hFG w (hS h))) ⟨fun h => hS (by rwa [getD_set_other _ hne] at h), H⟩
    · have h1 := H.2 j (ready_mono hj hji)
      obtain ⟨hjun, oj, hoj, hall⟩ := mem_ready.1 hj
      have hnot : ∀ e ∈ oj.after, Region.binds md e = true → e.on ≠ i := fun e he hb heq => by
        have h1 := hall e he hb
        have h0 := (mem_ready.1 hr).1
        rw [heq] at h1
        rcases Nat.lt_or_ge i listed.size with h' | h'
        · simp [h'] at h0 h1; rw [h0] at h1; cases h1
        · simp [Array.getElem?_eq_none h'] at h1
      have hsj : (∀ w, G w) ∨ j ≠ stop := by
        rcases hG with hG | ⟨e, he, hb, hon⟩
        · exact .inl hG
        · exact .inr fun hjs => by
            subst hjs
            rw [hoj] at hos
            cases hos
            exact hnot e he hb hon
      have h2 := wpOp_putIf hoj (hfree j oj hoj hji hjun hnot) (fun cs b => Region.noSelect_spec hsel i oi cs b hi) (fun cs b => Region.noSelect_spec hsel j oj cs b hoj) hQ hy h1
      have hfree' : ∀ k ok, ops[k]? = some ok → k ≠ i → (listed.setIfInBounds j true).getD k true = false →
          (∀ e ∈ ok.after, Region.binds md e = true → e.on ≠ i) → oi.apart ops ok = true := fun k ok hk hki hun hno => by
        refine hfree k ok hk hki ?_ hno
        by_cases hjk : j = k
        · subst hjk; exact hjun
        · rwa [getD_set_other _ hjk] at hun
      have hcomm : ((listed.setIfInBounds i true).setIfInBounds j true) = ((listed.setIfInBounds j true).setIfInBounds i true) := Array.setIfInBounds_comm _ _ (Ne.symm hji)
      refine wpOp_mono (fun a' w' h3 => ?_) h2
      obtain ⟨hy3, hS3, H3⟩ := h3
      have hS4 : (listed.setIfInBounds j true).getD stop true = false → F w' := fun h => hS3 (by rw [hcomm, getD_set_other _ hne]; exact h)
      have hs4 : (∀ w, G w) ∨ (listed.setIfInBounds j true).getD stop true = false := by
        rcases hs with h | h
        · exact .inl h
        · rcases hsj with h' | h'
          · exact .inl h'
          · exact .inr (by rw [getD_set_other _ h']; exact h)
      exact ⟨hS4, ih (listed.setIfInBounds j true) a' w' (ready_mono hr (Ne.symm hji)) hy3 hs4 hS4 (hcomm ▸ H3) hfree'⟩
/-- a load ahead of `stop` -/
theorem anyT_load {i : Nat} {oi os : Oper} {v : Value} {fuel : Nat} {listed : Array Bool} {a : Act} {w : World} (hi : ops[i]? = some oi) (hsel : Region.noSelect ops = true)
    (hf : Region.free md ops listed i = true) (hr : (Region.ready md ops listed).contains i = true) (hos : ops[stop]? = some os) (hwt : (i != stop && os.after.any fun e => Region.binds md e && e.on == i) = true)
    (hun : listed.getD stop true = false) (hQ : ∀ c a w, Q (.panic c) (a.put oi.dst v) w → Q (.panic c) a w) (hy : YieldsIf P ops F oi v a) (hS : F w)
    (h : anyT P md ops Q F stop fuel (listed.setIfInBounds i true) (a.put oi.dst v) w) : anyT P md ops Q F stop (fuel + 1) listed a w := by
  simp only [Bool.and_eq_true, bne_iff_ne, Array.any_eq_true', beq_iff_eq] at hwt
  obtain ⟨hne, e, he, hb, hon⟩ := hwt
  exact anyT_first hi hsel hQ (fun _ h => h) hos hne (.inr ⟨e, he, hb, hon⟩) fuel listed a w hf (by simpa using hr) hy (.inr hun) (fun _ => hS) h
/-- what reads no memory -/
theorem anyT_pure {i : Nat} {oi os : Oper} {v : Value} {fuel : Nat} {listed : Array Bool} {a : Act} {w : World} (hi : ops[i]? = some oi) (hsel : Region.noSelect ops = true)
    (hf : Region.free md ops listed i = true) (hr : (Region.ready md ops listed).contains i = true) (hos : ops[stop]? = some os) (hne : (i != stop) = true)
    (hQ : ∀ c a w, Q (.panic c) (a.put oi.dst v) w → Q (.panic c) a w) (hy : YieldsIf P ops (fun _ => True) oi v a) (hS : listed.getD stop true = false → F w)
    (h : anyT P md ops Q F stop fuel (listed.setIfInBounds i true) (a.put oi.dst v) w) : anyT P md ops Q F stop (fuel + 1) listed a w :=
  anyT_first hi hsel hQ (fun _ _ => trivial) hos (by simpa using hne) (.inl fun _ => trivial) fuel listed a w hf (by simpa using hr) hy (.inl fun _ => trivial) hS h
/-- the one that may come up -/
theorem anyT_one {i : Nat} {o : Oper} {fuel : Nat} {listed : Array Bool} {a : Act} {w : World} (hr : Region.ready md ops listed = [i]) (ho : ops[i]? = some o)
    (hw : Region.wanted o (yielded ops a.tmps) = true)
    (h : ∀ K' : Act → World → Prop, (∀ a' w', ((listed.setIfInBounds i true).getD stop true = false → F w') → anyT P md ops Q F stop fuel (listed.setIfInBounds i true) a' w' → K' a' w') → Oper.wp P o a w K' Q) : anyT P md ops Q F stop (fuel + 1) listed a w := by
  refine ⟨fun h0 => (by rw [hr] at h0; cases h0), fun j hj => ?_⟩
  rw [hr] at hj
  obtain rfl : j = i := by simpa using hj
  refine wpOp_step ho (fun K' hK' => ?_)
  rw [if_pos hw]
  exact h K' (fun a' w' hs hh => hK' a' w' ⟨hs, hh⟩)
theorem anyT_done {listed : Array Bool} {a : Act} {w : World} (hr : Region.ready md ops listed = []) (h : Q .normal a w) : ∀ fuel, anyT P md ops Q F stop fuel listed a w
  | 0 => ⟨hr, h⟩
  | _ + 1 => ⟨fun _ => h, by rw [hr]; simp⟩
theorem region_T {id : Nat} {a : Act} {w : World} (F : World → Prop) (stop : Nat) (hm : P.follows .mixedOrders = true)
    (h : anyT P .any ops Q F stop ops.size (Array.replicate ops.size false) a { w with drawn := w.drawn + 1 }) : (Code.region id ops true).wp P Q a w :=
  wp_region_any hm (any_of_anyT _ _ _ _ h)
end

/-- some string that is no longer -/
def SomeStr (w : World) (e : Ending) (w' : World) : Prop := ∃ s : ByteArray, e = .returned (.string s) ∧ s.size ≤ maxLen ∧ w = w'
theorem short_str (s : ByteArray) (n : Nat) (w : World) (hs : s.size ≤ maxLen) (hn : n ≤ 100) : Calls Try.prog 16 #[.string s, .int .i64 (n : Int)] w (SomeStr w) := by
  have hs0 := hs
  unfold maxLen at hs
  by_cases h : n < s.size
  · go_enter Try.func16, Try.ntmps16
    go_wp2
    go_ret
    exact ⟨_, rfl, by simp; unfold maxLen; omega, rfl⟩
  · go_enter Try.func16, Try.ntmps16
    go_wp2
    go_ret
    exact ⟨s, rfl, hs0, rfl⟩


theorem ents_nil (w : World) : Calls Try.prog 17 #[.slice none 0 0, .slice none 0 0] w fun e w' => e = .returned (.bool true) ∧ w = w' := by
  go_enter Try.func17, Try.ntmps17
  go_wp2
  go_loopw [5] (fun i wr => i = .int .i64 0 ∧ w = wr) (fun _ _ => 0)
  case atStart => exact ⟨rfl, by trivial⟩
  case round =>
    obtain ⟨rfl, rfl⟩ := hrel
    go_wp2
    go_ret
    exact ⟨rfl, rfl⟩

theorem ask_nil (mc : Array Value) (c : Int) (w : World) (m1 : mc[1]? = some (.int .i64 c)) :
    Calls Try.prog 8 #[.pointer none, .agg mc] w fun e w' => e = .returned (.tuple #[.int .i64 0, .agg zmsg.toArray]) ∧ Below w.heap.size w w' := by
  go_enter Try.func8, Try.ntmps8
  go_wp2_with fail
  refine (session_nil _ _).mono ?_
  rintro e w' ⟨rfl, rfl⟩
  have hB0 : Below w.heap.size w ((w.alloc (.cells mc 33)).alloc (.cells #[.int .i64 0, .int .i64 0, .int .u64 0, .int .u64 0, .int .u64 0, .int .i64 0, .int .i64 0, .int .i64 0, .int .i64 0, .int .i64 0, .int .i64 0, .string ⟨#[]⟩, .string ⟨#[]⟩, .int .i64 0, .int .i64 0, .string ⟨#[]⟩, .int .u64 0, .slice none 0 0] 33)) := ((Below.refl _ _).alloc (Nat.le_refl _) _).alloc (by simp) _
  have b5 : Blk ((w.alloc (.cells mc 33)).alloc (.cells #[.int .i64 0, .int .i64 0, .int .u64 0, .int .u64 0, .int .u64 0, .int .i64 0, .int .i64 0, .int .i64 0, .int .i64 0, .int .i64 0, .int .i64 0, .string ⟨#[]⟩, .string ⟨#[]⟩, .int .i64 0, .int .i64 0, .string ⟨#[]⟩, .int .u64 0, .slice none 0 0] 33)) (w.heap.size + 1) 33 zmsg.toArray := Blk.new2 w _ _ _
  generalize (w.alloc (.cells mc 33)).alloc (.cells #[.int .i64 0, .int .i64 0, .int .u64 0, .int .u64 0, .int .u64 0, .int .i64 0, .int .i64 0, .int .i64 0, .int .i64 0, .int .i64 0, .int .i64 0, .string ⟨#[]⟩, .string ⟨#[]⟩, .int .i64 0, .int .i64 0, .string ⟨#[]⟩, .int .u64 0, .slice none 0 0] 33) = W at hB0 b5 ⊢
  have hz5 : Blk (W.setRow (w.heap.size + 1) zmsg.toArray) (w.heap.size + 1) 33 zmsg.toArray := b5.row _
  go_wp2_with (refine wpList_store_row rfl 33 (.tmp 5) (.tmp 21) rfl (w.heap.size + 1) zmsg.toArray rfl rfl 33 _ b5 zmsg_size rfl zmsg_one ?_)
  exact bodyPost_ret (results_tmp_cell Try.results8 _ _ (w.heap.size + 1) 33 zmsg.toArray (0, 0) _ rfl hz5 Try.underlying33 rfl zmsg_size) rfl ⟨rfl, below_row hB0 (by omega) _⟩

end Go.Proofs.Ytchddfodgibpjaa
