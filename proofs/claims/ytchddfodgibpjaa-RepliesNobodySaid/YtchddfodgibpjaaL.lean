/- A message that came in: what its cells are. -/
import Derived.Test.YtchddfodgibpjaaI
import Derived.Deep.Slices
import Derived.Deep.Fields
import Derived.ChangeSame
namespace Go.Proofs.Ytchddfodgibpjaa
open Go.ChangeShapes Go.WideShapes Go.Deep Go.RowKit
set_option linter.unusedVariables false

section
variable {H : Type} {enc : TypeId × Value → H} {w : World} {base : Nat} {spare : Nat → Bool} {held : Bool} {n : Nat} {l : List Value} {x : DataW H × List MemPlace}
theorem take_one {o : Nat} {v : Value} (h : (l.drop o).take 1 = [v]) : l[o]? = some v := by
  have := congrArg (·[0]?) h
  simpa [List.getElem?_take, List.getElem?_drop] using this
theorem take_two {o j : Nat} {v : Value} (hj : j < 2) (h : ((l.drop o).take 2)[j]? = some v) : l[o + j]? = some v := by
  simpa [List.getElem?_take, List.getElem?_drop, hj] using h
theorem int_at {o : Nat} {t : TypeId} {k : IntKind} (ht : Try.prog.underlying t = some (.int k)) (h : DataW.trod enc Try.prog w base spare held n t ((l.drop o).take 1) = some x) : ∃ z, l[o]? = some (.int k z) := by
  obtain ⟨z, e, _⟩ := DataW.trod_int ht h
  exact ⟨z, take_one e⟩
theorem str_at {o : Nat} (h : DataW.trod enc Try.prog w base spare held n 9 ((l.drop o).take 1) = some x) : ∃ s : ByteArray, l[o]? = some (.string s) ∧ s.size ≤ maxLen := by
  obtain ⟨s, e, _, hs⟩ := DataW.trod_string Try.underlying9 h
  exact ⟨s, take_one e, hs⟩
theorem file_at {o : Nat} (h : DataW.trod enc Try.prog w base spare held n 30 ((l.drop o).take 2) = some x) : ∃ z1 z2, l[o]? = some (.int .i64 z1) ∧ l[o + 1]? = some (.int .i64 z2) := by
  obtain ⟨xs, n', _, _, _, hxl, hf⟩ := DataW.trod_struct Try.underlying30 h
  have h0 := hf 0 _ rfl
  have h1 := hf 1 _ rfl
  rw [show xs[0]? = some (xs[0]'(by rw [hxl]; decide)) from List.getElem?_eq_getElem _] at h0
  rw [show xs[1]? = some (xs[1]'(by rw [hxl]; decide)) from List.getElem?_eq_getElem _] at h1
  obtain ⟨z1, e1⟩ := int_at (o := 0) Try.underlying3 h0
  obtain ⟨z2, e2⟩ := int_at (o := 1) Try.underlying3 h1
  exact ⟨z1, z2, take_two (by omega) e1, take_two (by omega) e2⟩
theorem cells51 : Try.prog.cellsOf 51 = 4 := by kernel_rfl
theorem ents_of {a : Option Addr} {len cap : Nat} (h : DataW.trod enc Try.prog w base spare held n 31 [.slice a len cap] = some x) :
    len ≤ maxLen ∧ ∀ k, k < len → ∃ y o s z1 z2 z3, a = some ⟨y, o, none⟩ ∧ Ent w y o k s z1 z2 z3 := by
  rcases open_slice Try.underlying31 h with ⟨h0, _⟩ | ⟨ad, l', c', m, n', D, Pl, h0, _, hl, hm, hmm, _, hat⟩
  · simp at h0
    obtain ⟨rfl, rfl, rfl⟩ := h0
    exact ⟨Nat.zero_le _, fun k hk => by omega⟩
  · simp at h0
    obtain ⟨rfl, rfl, rfl⟩ := h0
    refine ⟨Nat.le_trans hl hm, fun k hk => ?_⟩
    have hlm : len ≤ m := by rw [hmm]; split <;> omega
    have got : ∀ i, i < len → ∃ s z1 z2 z3, w.cell? (ad.add (i * 4)) = some (.string s) ∧ s.size ≤ maxLen ∧ w.cell? (ad.add (i * 4 + 1)) = some (.int .i64 z1) ∧ w.cell? (ad.add (i * 4 + 2)) = some (.int .i64 z2) ∧ w.cell? (ad.add (i * 4 + 3)) = some (.int .i64 z3) := by
      intro i hi
      obtain ⟨cs', hc, ht⟩ := hat i (by omega)
      rw [cells51] at hc
      obtain ⟨_, hcl, hcell⟩ := World.cells?_some hc
      obtain ⟨xs, n2, _, _, _, hxl, hf⟩ := DataW.trod_struct Try.underlying51 ht
      have h0 := hf 0 _ rfl
      have h1 := hf 1 _ rfl
      have h2 := hf 2 _ rfl
      rw [show xs[0]? = some (xs[0]'(by rw [hxl]; decide)) from List.getElem?_eq_getElem _] at h0
      rw [show xs[1]? = some (xs[1]'(by rw [hxl]; decide)) from List.getElem?_eq_getElem _] at h1
      rw [show xs[2]? = some (xs[2]'(by rw [hxl]; decide)) from List.getElem?_eq_getElem _] at h2
      obtain ⟨s, e0, hs⟩ := str_at (o := 0) h0
      obtain ⟨z1, z2, e1, e2⟩ := file_at (o := 1) h1
      obtain ⟨z3, e3⟩ := int_at (o := 3) Try.underlying3 h2
      refine ⟨s, z1, z2, z3, ?_, hs, ?_, ?_, ?_⟩
      · have := hcell 0 (by omega); rw [Go.Deep.add_add, Nat.add_zero] at this; rw [this]; exact e0
      · have := hcell 1 (by omega); rw [Go.Deep.add_add] at this; rw [this]; exact e1
      · have := hcell 2 (by omega); rw [Go.Deep.add_add] at this; rw [this]; exact e2
      · have := hcell 3 (by omega); rw [Go.Deep.add_add] at this; rw [this]; exact e3
    obtain ⟨y, o, sp⟩ := ad
    have hsp : sp = none := by
      obtain ⟨s, _, _, _, e, _⟩ := got 0 (by omega)
      have e : w.cell? ⟨y, o, sp⟩ = some (.string s) := e
      cases sp with
      | none => rfl
      | some q =>
        unfold World.cell? at e
        split at e
        · simp at e
        · cases e
    subst hsp
    obtain ⟨s, z1, z2, z3, e0, hs, e1, e2, e3⟩ := got k hk
    rw [Addr.add_mid] at e0 e1 e2 e3
    exact ⟨y, o, s, z1, z2, z3, rfl, World.block_lt_of_cell? w _ e0, e0, hs, e1, e2, e3⟩

theorem ism_of {cs : Array Value} (h : DataW.trod enc Try.prog w base spare held n 33 cs.toList = some x) :
    ∃ c s11 s12 s15 A len cap, IsM w cs c s11 s12 s15 A len cap := by
  obtain ⟨xs, n', _, _, hcl, hxl, hf⟩ := DataW.trod_struct Try.underlying33 h
  have hsz : cs.toList.length = 18 := hcl.trans (by kernel_rfl)
  have hx : ∀ i, i < 16 → ∃ y, xs[i]? = some y := fun i hi => ⟨_, List.getElem?_eq_getElem (by rw [hxl]; exact hi)⟩
  have get : ∀ (i : Nat) (f : Field), i < 16 → (_ : Array Field)[i]? = some f → ∃ y, DataW.trod enc Try.prog w base spare held n' f.type ((cs.toList.drop f.offset).take (Try.prog.cellsOf f.type)) = some y := fun i f hi hfi => by
    obtain ⟨y, hy⟩ := hx i hi
    exact ⟨y, (hf i f hfi).trans hy⟩
  obtain ⟨_, q0⟩ := get 0 _ (by omega) rfl
  obtain ⟨_, q1⟩ := get 1 _ (by omega) rfl
  obtain ⟨_, q2⟩ := get 2 _ (by omega) rfl
  obtain ⟨_, q3⟩ := get 3 _ (by omega) rfl
  obtain ⟨_, q4⟩ := get 4 _ (by omega) rfl
  obtain ⟨_, q5⟩ := get 5 _ (by omega) rfl
  obtain ⟨_, q6⟩ := get 6 _ (by omega) rfl
  obtain ⟨_, q7⟩ := get 7 _ (by omega) rfl
  obtain ⟨_, q8⟩ := get 8 _ (by omega) rfl
  obtain ⟨_, q9⟩ := get 9 _ (by omega) rfl
  obtain ⟨_, q10⟩ := get 10 _ (by omega) rfl
  obtain ⟨_, q11⟩ := get 11 _ (by omega) rfl
  obtain ⟨_, q12⟩ := get 12 _ (by omega) rfl
  obtain ⟨_, q13⟩ := get 13 _ (by omega) rfl
  obtain ⟨_, q14⟩ := get 14 _ (by omega) rfl
  obtain ⟨_, q15⟩ := get 15 _ (by omega) rfl
  obtain ⟨z0, e0⟩ := int_at (o := 0) Try.underlying3 q0
  obtain ⟨z1, e1⟩ := int_at (o := 1) Try.underlying3 q1
  obtain ⟨z2, e2⟩ := int_at (o := 2) Try.underlying22 q2
  obtain ⟨z3, e3⟩ := int_at (o := 3) Try.underlying22 q3
  obtain ⟨z4, e4⟩ := int_at (o := 4) Try.underlying22 q4
  obtain ⟨z5, e5⟩ := int_at (o := 5) Try.underlying3 q5
  obtain ⟨z6, e6⟩ := int_at (o := 6) Try.underlying26 q6
  obtain ⟨z7, z8, e7, e8⟩ := file_at (o := 7) q7
  obtain ⟨z9, z10, e9, e10⟩ := file_at (o := 9) q8
  obtain ⟨s11, e11, l11⟩ := str_at (o := 11) q9
  obtain ⟨s12, e12, l12⟩ := str_at (o := 12) q10
  obtain ⟨z13, e13⟩ := int_at (o := 13) Try.underlying3 q11
  obtain ⟨z14, e14⟩ := int_at (o := 14) Try.underlying3 q12
  obtain ⟨s15, e15, l15⟩ := str_at (o := 15) q13
  obtain ⟨z16, e16⟩ := int_at (o := 16) Try.underlying22 q14
  have q15 : DataW.trod enc Try.prog w base spare held n' 31 ((cs.toList.drop 17).take 1) = some _ := q15
  obtain ⟨A, len, cap, e17'⟩ : ∃ A len cap, (cs.toList.drop 17).take 1 = [.slice A len cap] := by
    rcases open_slice Try.underlying31 q15 with ⟨h0, _⟩ | ⟨ad, l', c', _, _, _, _, h0, _⟩
    · exact ⟨none, 0, 0, h0⟩
    · exact ⟨some ad, l', c', h0⟩
  rw [e17'] at q15
  have e17 := take_one e17'
  obtain ⟨hle, hents⟩ := ents_of q15
  refine ⟨z1, s11, s12, s15, A, len, cap, by simpa using hsz, ?_, by simpa using e1, by simpa using e11, by simpa using e12, by simpa using e15, l11, l12, l15, by simpa using e17, hle, hents⟩
  rw [Array.all_eq_true_iff_forall_mem]
  intro v hv
  obtain ⟨j, hj, e⟩ := List.mem_iff_getElem.1 (Array.mem_toList_iff.2 hv)
  have hjv : cs.toList[j]? = some v := by rw [List.getElem?_eq_getElem hj, e]
  rw [hsz] at hj
  have hcase : j = 0 ∨ j = 1 ∨ j = 2 ∨ j = 3 ∨ j = 4 ∨ j = 5 ∨ j = 6 ∨ j = 7 ∨ j = 8 ∨ j = 9 ∨ j = 10 ∨ j = 11 ∨ j = 12 ∨ j = 13 ∨ j = 14 ∨ j = 15 ∨ j = 16 ∨ j = 17 := by omega
  rcases hcase with rfl | rfl | rfl | rfl | rfl | rfl | rfl | rfl | rfl | rfl | rfl | rfl | rfl | rfl | rfl | rfl | rfl | rfl
  · rw [e0] at hjv; injection hjv with hjv; subst hjv; rfl
  · rw [e1] at hjv; injection hjv with hjv; subst hjv; rfl
  · rw [e2] at hjv; injection hjv with hjv; subst hjv; rfl
  · rw [e3] at hjv; injection hjv with hjv; subst hjv; rfl
  · rw [e4] at hjv; injection hjv with hjv; subst hjv; rfl
  · rw [e5] at hjv; injection hjv with hjv; subst hjv; rfl
  · rw [e6] at hjv; injection hjv with hjv; subst hjv; rfl
  · rw [e7] at hjv; injection hjv with hjv; subst hjv; rfl
  · rw [e8] at hjv; injection hjv with hjv; subst hjv; rfl
  · rw [e9] at hjv; injection hjv with hjv; subst hjv; rfl
  · rw [e10] at hjv; injection hjv with hjv; subst hjv; rfl
  · rw [e11] at hjv; injection hjv with hjv; subst hjv; rfl
  · rw [e12] at hjv; injection hjv with hjv; subst hjv; rfl
  · rw [e13] at hjv; injection hjv with hjv; subst hjv; rfl
  · rw [e14] at hjv; injection hjv with hjv; subst hjv; rfl
  · rw [e15] at hjv; injection hjv with hjv; subst hjv; rfl
  · rw [e16] at hjv; injection hjv with hjv; subst hjv; rfl
  · rw [e17] at hjv; injection hjv with hjv; subst hjv; rfl
end

end Go.Proofs.Ytchddfodgibpjaa
