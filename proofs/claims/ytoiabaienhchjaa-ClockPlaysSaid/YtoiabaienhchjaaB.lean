/- Contracts of the clock: lives(i), turn. -/
import Derived.Test.YtoiabaienhchjaaA
import Derived.Deep.RegionHeld3
import Derived.StillTailTactics
namespace Go.Proofs.Ytoiabaienhchjaa
open Go.RowKit
set_option linter.unusedVariables false

section
variable {P : Program} {ops : Array Oper} {md : Region.Mode} {Q : Exit → Act → World → Prop} {F : World → Prop} {stop : Nat}
/-- whatever order is picked from here on; F holds as long as number `stop` has not come up -/
def anyT (P : Program) (md : Region.Mode) (ops : Array Oper) (Q : Exit → Act → World → Prop) (F : World → Prop) (stop : Nat) : Nat → Array Bool → Act → World → Prop
  | 0, listed, a, w => Region.ready md ops listed = [] ∧ Q .normal a w
  | fuel + 1, listed, a, w =>
    (Region.ready md ops listed = [] → Q .normal a w) ∧
    ∀ i ∈ Region.ready md ops listed, wpOp P ops Q i (fun a' w' => ((listed.setIfInBounds i true).getD stop true = false → F w') ∧ anyT P md ops Q F stop fuel (listed.setIfInBounds i true) a' w') a w
theorem any_of_anyT : ∀ (fuel : Nat) (listed : Array Bool) (a : Act) (w : World), anyT P md ops Q F stop fuel listed a w → wpAny P md ops Q fuel listed a w
  | 0, _, _, _, h => h
  | fuel + 1, _, _, _, h => ⟨h.1, fun i hi => wpOp_mono (fun a' w' h' => any_of_anyT fuel _ a' w' h'.2) (h.2 i hi)⟩
theorem getD_set_other (L : Array Bool) {i k : Nat} (h : i ≠ k) : (L.setIfInBounds i true).getD k true = L.getD k true := by
  simp [Array.getD_eq_getD_getElem?, Array.getElem?_setIfInBounds_ne h]
/-- number i may be taken first: it yields in every world (G is empty of content) or in every world as it stands before `stop`, which waits for i -/
theorem anyT_first {i : Nat} {oi os : Oper} {v : Value} {G : World → Prop} (hi : ops[i]? = some oi) (hsel : Region.noSelect ops = true)
    (hQ : ∀ c a w, Q (.panic c) (a.put oi.dst v) w → Q (.panic c) a w) (hFG : ∀ w, F w → G w) (hos : ops[stop]? = some os) (hne : i ≠ stop)
    (hG : (∀ w, G w) ∨ ∃ e ∈ os.after, Region.binds md e = true ∧ e.on = i) :
    ∀ (fuel : Nat) (listed : Array Bool) (a : Act) (w : World), Region.free md ops listed i = true → i ∈ Region.ready md ops listed → YieldsIf P ops G oi v a →
      ((∀ w, G w) ∨ listed.getD stop true = false) → (listed.getD stop true = false → F w) →
      anyT P md ops Q F stop fuel (listed.setIfInBounds i true) (a.put oi.dst v) w → anyT P md ops Q F stop (fuel + 1) listed a w := by
  intro fuel listed a w hfree0 hr hy hs hS H
  have hfree := Region.free_spec hi hfree0
  clear hfree0
  induction fuel generalizing listed a w with
  | zero =>
    refine ⟨fun h => (by rw [h] at hr; cases hr), fun j hj => ?_⟩
    by_cases hji : j = i
    · subst hji
      exact hy.wpOp hi (hs.elim (fun h => h w) (fun h => hFG w (hS h))) ⟨fun h => hS (by rwa [getD_set_other _ hne] at h), H⟩
    · have := ready_mono hj hji
      rw [H.1] at this
      cases this
  | succ fuel ih =>
    refine ⟨fun h => (by rw [h] at hr; cases hr), fun j hj => ?_⟩
    by_cases hji : j = i
    · subst hji
      exact hy.wpOp hi (hs.elim (fun h => h w) (fun h => hFG w (hS h))) ⟨fun h => hS (by rwa [getD_set_other _ hne] at h), H⟩
    · have h1 := H.2 j (ready_mono hj hji)
      obtain ⟨hjun, oj, hoj, hall⟩ := mem_ready.1 hj
      have hnot : ∀ e ∈ oj.after, Region.binds md e = true → e.on ≠ i := fun e he hb heq => by
        have h1 := hall e he hb
        have h0 := (mem_ready.1 hr).1
        rw [heq] at h1
        rcases Nat.lt_or_ge i listed.size with h' | h'
        · simp [h'] at h0 h1; rw [h0] at h1; cases h1
        · simp [Array.getElem?_eq_none h'] at h1
      have hsj : (∀ w, G w) ∨ j ≠ stop := by
        rcases hG with hG | ⟨e, he, hb, hon⟩
        · exact .inl hG
        · exact .inr fun hjs => by
            subst hjs
            rw [hoj] at hos
            cases hos
            exact hnot e he hb hon
      have h2 := wpOp_putIf hoj (hfree j oj hoj hji hjun hnot) (fun cs b => Region.noSelect_spec hsel i oi cs b hi) (fun cs b => Region.noSelect_spec hsel j oj cs b hoj) hQ hy h1
      have hfree' : ∀ k ok, ops[k]? = some ok → k ≠ i → (listed.setIfInBounds j true).getD k true = false →
          (∀ e ∈ ok.after, Region.binds md e = true → e.on ≠ i) → oi.apart ops ok = true := fun k ok hk hki hun hno => by
        refine hfree k ok hk hki ?_ hno
        by_cases hjk : j = k
        · subst hjk; exact hjun
        · rwa [getD_set_other _ hjk] at hun
      have hcomm : ((listed.setIfInBounds i true).setIfInBounds j true) = ((listed.setIfInBounds j true).setIfInBounds i true) := Array.setIfInBounds_comm _ _ (Ne.symm hji)
      refine wpOp_mono (fun a' w' h3 => ?_) h2
      obtain ⟨hy3, hS3, H3⟩ := h3
      have hS4 : (listed.setIfInBounds j true).getD stop true = false → F w' := fun h => hS3 (by rw [hcomm, getD_set_other _ hne]; exact h)
      have hs4 : (∀ w, G w) ∨ (listed.setIfInBounds j true).getD stop true = false := by
        rcases hs with h | h
        · exact .inl h
        · rcases hsj with h' | h'
          · exact .inl h'
          · exact .inr (by rw [getD_set_other _ h']; exact h)
      exact ⟨hS4, ih (listed.setIfInBounds j true) a' w' (ready_mono hr (Ne.symm hji)) hy3 hs4 hS4 (hcomm ▸ H3) hfree'⟩
/-- a load ahead of `stop` -/
theorem anyT_load {i : Nat} {oi os : Oper} {v : Value} {fuel : Nat} {listed : Array Bool} {a : Act} {w : World} (hi : ops[i]? = some oi) (hsel : Region.noSelect ops = true)
    (hf : Region.free md ops listed i = true) (hr : (Region.ready md ops listed).contains i = true) (hos : ops[stop]? = some os) (hwt : (i != stop && os.after.any fun e => Region.binds md e && e.on == i) = true)
    (hun : listed.getD stop true = false) (hQ : ∀ c a w, Q (.panic c) (a.put oi.dst v) w → Q (.panic c) a w) (hy : YieldsIf P ops F oi v a) (hS : F w)
    (h : anyT P md ops Q F stop fuel (listed.setIfInBounds i true) (a.put oi.dst v) w) : anyT P md ops Q F stop (fuel + 1) listed a w := by
  simp only [Bool.and_eq_true, bne_iff_ne, Array.any_eq_true', beq_iff_eq] at hwt
  obtain ⟨hne, e, he, hb, hon⟩ := hwt
  exact anyT_first hi hsel hQ (fun _ h => h) hos hne (.inr ⟨e, he, hb, hon⟩) fuel listed a w hf (by simpa using hr) hy (.inr hun) (fun _ => hS) h
/-- what reads no memory -/
theorem anyT_pure {i : Nat} {oi os : Oper} {v : Value} {fuel : Nat} {listed : Array Bool} {a : Act} {w : World} (hi : ops[i]? = some oi) (hsel : Region.noSelect ops = true)
    (hf : Region.free md ops listed i = true) (hr : (Region.ready md ops listed).contains i = true) (hos : ops[stop]? = some os) (hne : (i != stop) = true)
    (hQ : ∀ c a w, Q (.panic c) (a.put oi.dst v) w → Q (.panic c) a w) (hy : YieldsIf P ops (fun _ => True) oi v a) (hS : listed.getD stop true = false → F w)
    (h : anyT P md ops Q F stop fuel (listed.setIfInBounds i true) (a.put oi.dst v) w) : anyT P md ops Q F stop (fuel + 1) listed a w :=
  anyT_first hi hsel hQ (fun _ _ => trivial) hos (by simpa using hne) (.inl fun _ => trivial) fuel listed a w hf (by simpa using hr) hy (.inl fun _ => trivial) hS h
/-- the one that may come up -/
theorem anyT_one {i : Nat} {o : Oper} {fuel : Nat} {listed : Array Bool} {a : Act} {w : World} (hr : Region.ready md ops listed = [i]) (ho : ops[i]? = some o)
    (hw : Region.wanted o (yielded ops a.tmps) = true)
    (h : ∀ K' : Act → World → Prop, (∀ a' w', ((listed.setIfInBounds i true).getD stop true = false → F w') → anyT P md ops Q F stop fuel (listed.setIfInBounds i true) a' w' → K' a' w') → Oper.wp P o a w K' Q) : anyT P md ops Q F stop (fuel + 1) listed a w := by
  refine ⟨fun h0 => (by rw [hr] at h0; cases h0), fun j hj => ?_⟩
  rw [hr] at hj
  obtain rfl : j = i := by simpa using hj
  refine wpOp_step ho (fun K' hK' => ?_)
  rw [if_pos hw]
  exact h K' (fun a' w' hs hh => hK' a' w' ⟨hs, hh⟩)
theorem anyT_done {listed : Array Bool} {a : Act} {w : World} (hr : Region.ready md ops listed = []) (h : Q .normal a w) : ∀ fuel, anyT P md ops Q F stop fuel listed a w
  | 0 => ⟨hr, h⟩
  | _ + 1 => ⟨fun _ => h, by rw [hr]; simp⟩
theorem region_T {id : Nat} {a : Act} {w : World} (F : World → Prop) (stop : Nat) (hm : P.follows .mixedOrders = true)
    (h : anyT P .any ops Q F stop ops.size (Array.replicate ops.size false) a { w with drawn := w.drawn + 1 }) : (Code.region id ops true).wp P Q a w :=
  wp_region_any hm (any_of_anyT _ _ _ _ h)
end

theorem lives_nobody (a : Option Addr) (i : Int) (w : World) (h : Nobody w a) : Calls Try.prog 30 #[.pointer a, .int .i64 i] w fun e w' => e = .returned (.int .i64 1) ∧ w = w' := by
  go_enter Try.func30, Try.ntmps30
  go_wp2_with (go_at_call 31; refine (wrong_nobody a i w h).mono ?_; rintro e w' ⟨rfl, rfl⟩)
  go_ret
  exact ⟨rfl, rfl⟩
theorem lives_out (b n u p m h : Nat) (i : Int) (w : World) (hr : Ring w b n u p m h) (hk : ¬ (0 ≤ i ∧ i < n)) : Calls Try.prog 30 #[.pointer (some ⟨b, 0, none⟩), .int .i64 i] w fun e w' => e = .returned (.int .i64 2) ∧ w = w' := by
  have HR := Lib.hid hr
  have HK := Lib.hid hk
  clear hr hk
  go_enter Try.func30, Try.ntmps30
  go_wp2_with (go_at_call 31; refine (wrong_out b n u p m h i w HR.out HK.out).mono ?_; rintro e w' ⟨rfl, rfl⟩)
  go_ret
  exact ⟨rfl, rfl⟩
theorem lives_at (b n u p m h k : Nat) (w : World) (hr : Ring w b n u p m h) (hk : k < n) : Calls Try.prog 30 #[.pointer (some ⟨b, 0, none⟩), .int .i64 (k : Int)] w fun e w' => e = .returned (.int .i64 (if u.testBit k then 0 else 11)) ∧ w = w' := by
  have HR := Lib.hid hr
  have hc := hr.u_
  have h64 : k < 64 := Nat.lt_of_lt_of_le hk hr.n64
  have hul := hr.ul
  clear hr
  by_cases ht : u.testBit k = true
  · go_enter Try.func30, Try.ntmps30
    go_wp2_with (first
      | (go_at_call 31; refine (wrong_in b n u p m h k w HR.out hk).mono ?_; rintro e w' ⟨rfl, rfl⟩)
      | (go_at_call 27; refine (has_at u k w hul h64).mono ?_; rintro e w' ⟨rfl, rfl⟩; rw [ht]))
    go_ret
    exact ⟨rfl, rfl⟩
  · have ht := eq_false_of_ne_true ht
    go_enter Try.func30, Try.ntmps30
    go_wp2_with (first
      | (go_at_call 31; refine (wrong_in b n u p m h k w HR.out hk).mono ?_; rintro e w' ⟨rfl, rfl⟩)
      | (go_at_call 27; refine (has_at u k w hul h64).mono ?_; rintro e w' ⟨rfl, rfl⟩; rw [ht]))
    go_ret
    exact ⟨rfl, rfl⟩

theorem turn_nobody (a : Option Addr) (i : Int) (x y z : Bool) (w : World) (h : Nobody w a) : Calls Try.prog 29 #[.pointer a, .int .i64 i, .bool x, .bool y, .bool z] w fun e w' => e = .returned (.int .i64 1) ∧ w = w' := by
  go_enter Try.func29, Try.ntmps29
  go_wp2_with (go_at_call 31; refine (wrong_nobody a i w h).mono ?_; rintro e w' ⟨rfl, rfl⟩)
  go_ret
  exact ⟨rfl, rfl⟩
theorem turn_out (b n u p m h : Nat) (i : Int) (x y z : Bool) (w : World) (hr : Ring w b n u p m h) (hk : ¬ (0 ≤ i ∧ i < n)) : Calls Try.prog 29 #[.pointer (some ⟨b, 0, none⟩), .int .i64 i, .bool x, .bool y, .bool z] w fun e w' => e = .returned (.int .i64 2) ∧ w = w' := by
  have HR := Lib.hid hr
  have HK := Lib.hid hk
  clear hr hk
  go_enter Try.func29, Try.ntmps29
  go_wp2_with (go_at_call 31; refine (wrong_out b n u p m h i w HR.out HK.out).mono ?_; rintro e w' ⟨rfl, rfl⟩)
  go_ret
  exact ⟨rfl, rfl⟩
theorem turn_in (b n u p m h k : Nat) (x y z : Bool) (w : World) (hr : Ring w b n u p m h) (hk : k < n) :
    Calls Try.prog 29 #[.pointer (some ⟨b, 0, none⟩), .int .i64 (k : Int), .bool x, .bool y, .bool z] w fun e w' => e = .returned (.int .i64 0) ∧ Ring w' b n (put u k x) (put p k y) (put m k z) h ∧ w.grownBy w' (some b) := by
  have HR := Lib.hid hr
  have z1 := hr.blk.frozen 1
  have z2 := hr.blk.frozen 2
  have z3 := hr.blk.frozen 3
  have hu := hr.u_
  have hp := hr.p_
  have hm := hr.m_
  have h64 : k < 64 := Nat.lt_of_lt_of_le hk hr.n64
  have hul := hr.ul
  have hpl := hr.pl
  have hml := hr.ml
  clear hr
  go_enter Try.func29, Try.ntmps29
  go_wp2_with (go_at_call 31; refine (wrong_in b n u p m h k w HR.out hk).mono ?_; rintro e w' ⟨rfl, rfl⟩)
  refine region_T (fun w' => w'.cell? ⟨b, 1, none⟩ = some (.int .u64 (u : Int)) ∧ w'.cell? ⟨b, 2, none⟩ = some (.int .u64 (p : Int)) ∧ w'.cell? ⟨b, 3, none⟩ = some (.int .u64 (m : Int))) 26 (by kernel_rfl) ?_
  refine anyT_pure (i := 0) rfl (by kernel_rfl) (by kernel_rfl) (by kernel_rfl) rfl (by kernel_rfl) (fun _ _ _ h => h) (.inl ⟨by kernel_rfl, fun w1 _ => by go_simp; rfl⟩) (fun _ => ⟨hu, hp, hm⟩) ?_
  refine anyT_pure (i := 1) rfl (by kernel_rfl) (by kernel_rfl) (by kernel_rfl) rfl (by kernel_rfl) (fun _ _ _ h => h) (.inl ⟨by kernel_rfl, fun w1 _ => by go_simp; rfl⟩) (fun _ => ⟨hu, hp, hm⟩) ?_
  refine anyT_pure (i := 2) rfl (by kernel_rfl) (by kernel_rfl) (by kernel_rfl) rfl (by kernel_rfl) (fun _ _ _ h => h) (.inl ⟨by kernel_rfl, fun w1 _ => by go_simp; rfl⟩) (fun _ => ⟨hu, hp, hm⟩) ?_
  refine anyT_pure (i := 3) rfl (by kernel_rfl) (by kernel_rfl) (by kernel_rfl) rfl (by kernel_rfl) (fun _ _ _ h => h) (.inl ⟨by kernel_rfl, fun w1 _ => by go_simp; rfl⟩) (fun _ => ⟨hu, hp, hm⟩) ?_
  refine anyT_pure (i := 4) rfl (by kernel_rfl) (by kernel_rfl) (by kernel_rfl) rfl (by kernel_rfl) (fun _ _ _ h => h) (.inl ⟨by kernel_rfl, fun w1 _ => by go_simp; rfl⟩) (fun _ => ⟨hu, hp, hm⟩) ?_
  refine anyT_pure (i := 5) rfl (by kernel_rfl) (by kernel_rfl) (by kernel_rfl) rfl (by kernel_rfl) (fun _ _ _ h => h) (.inl ⟨by kernel_rfl, fun w1 _ => by go_simp; rfl⟩) (fun _ => ⟨hu, hp, hm⟩) ?_
  refine anyT_load (i := 6) rfl (by kernel_rfl) (by kernel_rfl) (by kernel_rfl) rfl (by kernel_rfl) (by kernel_rfl) (fun _ _ _ h => h) (.inl ⟨by kernel_rfl, fun w1 hw1 => by obtain ⟨f1, f2, f3⟩ := hw1; go_simp; rfl⟩) ⟨hu, hp, hm⟩ ?_
  refine anyT_pure (i := 7) rfl (by kernel_rfl) (by kernel_rfl) (by kernel_rfl) rfl (by kernel_rfl) (fun _ _ _ h => h) (.inl ⟨by kernel_rfl, fun w1 _ => by go_simp; rfl⟩) (fun _ => ⟨hu, hp, hm⟩) ?_
  refine anyT_pure (i := 8) rfl (by kernel_rfl) (by kernel_rfl) (by kernel_rfl) rfl (by kernel_rfl) (fun _ _ _ h => h) (.inl ⟨by kernel_rfl, fun w1 _ => by go_simp; rfl⟩) (fun _ => ⟨hu, hp, hm⟩) ?_
  refine anyT_pure (i := 10) rfl (by kernel_rfl) (by kernel_rfl) (by kernel_rfl) rfl (by kernel_rfl) (fun _ _ _ h => h) (.inl ⟨by kernel_rfl, fun w1 _ => by go_simp; rfl⟩) (fun _ => ⟨hu, hp, hm⟩) ?_
  refine anyT_pure (i := 11) rfl (by kernel_rfl) (by kernel_rfl) (by kernel_rfl) rfl (by kernel_rfl) (fun _ _ _ h => h) (.inl ⟨by kernel_rfl, fun w1 _ => by go_simp; rfl⟩) (fun _ => ⟨hu, hp, hm⟩) ?_
  refine anyT_pure (i := 12) rfl (by kernel_rfl) (by kernel_rfl) (by kernel_rfl) rfl (by kernel_rfl) (fun _ _ _ h => h) (.inl ⟨by kernel_rfl, fun w1 _ => by go_simp; rfl⟩) (fun _ => ⟨hu, hp, hm⟩) ?_
  refine anyT_load (i := 13) rfl (by kernel_rfl) (by kernel_rfl) (by kernel_rfl) rfl (by kernel_rfl) (by kernel_rfl) (fun _ _ _ h => h) (.inl ⟨by kernel_rfl, fun w1 hw1 => by obtain ⟨f1, f2, f3⟩ := hw1; go_simp; rfl⟩) ⟨hu, hp, hm⟩ ?_
  refine anyT_pure (i := 14) rfl (by kernel_rfl) (by kernel_rfl) (by kernel_rfl) rfl (by kernel_rfl) (fun _ _ _ h => h) (.inl ⟨by kernel_rfl, fun w1 _ => by go_simp; rfl⟩) (fun _ => ⟨hu, hp, hm⟩) ?_
  refine anyT_pure (i := 15) rfl (by kernel_rfl) (by kernel_rfl) (by kernel_rfl) rfl (by kernel_rfl) (fun _ _ _ h => h) (.inl ⟨by kernel_rfl, fun w1 _ => by go_simp; rfl⟩) (fun _ => ⟨hu, hp, hm⟩) ?_
  refine anyT_pure (i := 17) rfl (by kernel_rfl) (by kernel_rfl) (by kernel_rfl) rfl (by kernel_rfl) (fun _ _ _ h => h) (.inl ⟨by kernel_rfl, fun w1 _ => by go_simp; rfl⟩) (fun _ => ⟨hu, hp, hm⟩) ?_
  refine anyT_pure (i := 18) rfl (by kernel_rfl) (by kernel_rfl) (by kernel_rfl) rfl (by kernel_rfl) (fun _ _ _ h => h) (.inl ⟨by kernel_rfl, fun w1 _ => by go_simp; rfl⟩) (fun _ => ⟨hu, hp, hm⟩) ?_
  refine anyT_pure (i := 19) rfl (by kernel_rfl) (by kernel_rfl) (by kernel_rfl) rfl (by kernel_rfl) (fun _ _ _ h => h) (.inl ⟨by kernel_rfl, fun w1 _ => by go_simp; rfl⟩) (fun _ => ⟨hu, hp, hm⟩) ?_
  refine anyT_load (i := 20) rfl (by kernel_rfl) (by kernel_rfl) (by kernel_rfl) rfl (by kernel_rfl) (by kernel_rfl) (fun _ _ _ h => h) (.inl ⟨by kernel_rfl, fun w1 hw1 => by obtain ⟨f1, f2, f3⟩ := hw1; go_simp; rfl⟩) ⟨hu, hp, hm⟩ ?_
  refine anyT_pure (i := 21) rfl (by kernel_rfl) (by kernel_rfl) (by kernel_rfl) rfl (by kernel_rfl) (fun _ _ _ h => h) (.inl ⟨by kernel_rfl, fun w1 _ => by go_simp; rfl⟩) (fun _ => ⟨hu, hp, hm⟩) ?_
  refine anyT_pure (i := 22) rfl (by kernel_rfl) (by kernel_rfl) (by kernel_rfl) rfl (by kernel_rfl) (fun _ _ _ h => h) (.inl ⟨by kernel_rfl, fun w1 _ => by go_simp; rfl⟩) (fun _ => ⟨hu, hp, hm⟩) ?_
  refine anyT_one (i := 9) (by kernel_rfl) rfl (by kernel_rfl) (fun K hK => ?_)
  go_simp
  refine (with_at u k _ _ hul h64).mono ?_
  rintro e w' ⟨rfl, rfl⟩
  refine hK _ _ (fun _ => ⟨hu, hp, hm⟩) ?_
  clear hK K
  refine anyT_one (i := 16) (by kernel_rfl) rfl (by kernel_rfl) (fun K hK => ?_)
  go_simp
  refine (with_at p k _ _ hpl h64).mono ?_
  rintro e w' ⟨rfl, rfl⟩
  refine hK _ _ (fun _ => ⟨hu, hp, hm⟩) ?_
  clear hK K
  refine anyT_one (i := 23) (by kernel_rfl) rfl (by kernel_rfl) (fun K hK => ?_)
  go_simp
  refine (with_at m k _ _ hml h64).mono ?_
  rintro e w' ⟨rfl, rfl⟩
  refine hK _ _ (fun _ => ⟨hu, hp, hm⟩) ?_
  clear hK K
  refine anyT_pure (i := 24) rfl (by kernel_rfl) (by kernel_rfl) (by kernel_rfl) rfl (by kernel_rfl) (fun _ _ _ h => h) (.inl ⟨by kernel_rfl, fun w1 _ => by go_simp; rfl⟩) (fun _ => ⟨hu, hp, hm⟩) ?_
  refine anyT_pure (i := 25) rfl (by kernel_rfl) (by kernel_rfl) (by kernel_rfl) rfl (by kernel_rfl) (fun _ _ _ h => h) (.inl ⟨by kernel_rfl, fun w1 _ => by go_simp; rfl⟩) (fun _ => ⟨hu, hp, hm⟩) ?_
  refine anyT_one (i := 26) (by kernel_rfl) rfl (by kernel_rfl) (fun K hK => ?_)
  go_simp
  refine hK _ _ (fun h => absurd (h.symm.trans (by kernel_rfl)) Bool.false_ne_true) ?_
  clear hK K
  refine anyT_pure (i := 27) rfl (by kernel_rfl) (by kernel_rfl) (by kernel_rfl) rfl (by kernel_rfl) (fun _ _ _ h => h) (.inl ⟨by kernel_rfl, fun w1 _ => by go_simp; rfl⟩) (fun h => absurd (h.symm.trans (by kernel_rfl)) Bool.false_ne_true) ?_
  refine anyT_pure (i := 28) rfl (by kernel_rfl) (by kernel_rfl) (by kernel_rfl) rfl (by kernel_rfl) (fun _ _ _ h => h) (.inl ⟨by kernel_rfl, fun w1 _ => by go_simp; rfl⟩) (fun h => absurd (h.symm.trans (by kernel_rfl)) Bool.false_ne_true) ?_
  refine anyT_one (i := 29) (by kernel_rfl) rfl (by kernel_rfl) (fun K hK => ?_)
  go_simp
  refine hK _ _ (fun h => absurd (h.symm.trans (by kernel_rfl)) Bool.false_ne_true) ?_
  clear hK K
  refine anyT_pure (i := 30) rfl (by kernel_rfl) (by kernel_rfl) (by kernel_rfl) rfl (by kernel_rfl) (fun _ _ _ h => h) (.inl ⟨by kernel_rfl, fun w1 _ => by go_simp; rfl⟩) (fun h => absurd (h.symm.trans (by kernel_rfl)) Bool.false_ne_true) ?_
  refine anyT_pure (i := 31) rfl (by kernel_rfl) (by kernel_rfl) (by kernel_rfl) rfl (by kernel_rfl) (fun _ _ _ h => h) (.inl ⟨by kernel_rfl, fun w1 _ => by go_simp; rfl⟩) (fun h => absurd (h.symm.trans (by kernel_rfl)) Bool.false_ne_true) ?_
  refine anyT_one (i := 32) (by kernel_rfl) rfl (by kernel_rfl) (fun K hK => ?_)
  go_simp
  refine hK _ _ (fun h => absurd (h.symm.trans (by kernel_rfl)) Bool.false_ne_true) ?_
  clear hK K
  refine anyT_done (by kernel_rfl) ?_ _
  go_wp2_with fail
  go_ret
  refine ⟨rfl, ?_, grown_then (grown_then (grown_drew (b := w) (World.grownBy.refl w _) |> fun h => grown_then h (grown_set _ b 1 _)) (grown_set _ b 2 _)) (grown_set _ b 3 _)⟩
  have hb := ((HR.out.blk.drew.set_ 1 (.int .u64 (put u k x : Nat))).set_ 2 (.int .u64 (put p k y : Nat))).set_ 3 (.int .u64 (put m k z : Nat))
  exact ⟨hb, HR.out.n1, HR.out.n64, HR.out.hn, put_lt _ _ _ hul h64, put_lt _ _ _ hpl h64, put_lt _ _ _ hml h64⟩

end Go.Proofs.Ytoiabaienhchjaa
