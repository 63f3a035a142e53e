/- Plain laws for the walks over a slice of Do: the law's marks, what a call does to them; frames laid open. -/
import Derived.Test.YtoiabaienhchjaaK
namespace Go.Proofs.Ytoiabaienhchjaa
open Go.RowKit
set_option linter.unusedVariables false

/-- a slice of Do: what stands at each place -/
def IsDo (w : World) (a : Option Addr) (len cap : Nat) (ks is : List Int) : Prop :=
  (a = none ∧ len = 0 ∧ cap = 0) ∨
  ∃ x, a = some x ∧ len ≤ cap ∧ cap ≤ maxLen ∧ ks.length = len ∧ is.length = len ∧
    ∀ i, i < len → w.cell? (x.add (i * 2)) = some (.int .i64 (ks.getD i 0)) ∧ w.cell? ⟨(x.add (i * 2)).block, (x.add (i * 2)).off + 1, none⟩ = some (.int .i64 (is.getD i 0)) ∧
      -9223372036854775808 ≤ is.getD i 0 ∧ is.getD i 0 ≤ 9223372036854775807
theorem isdo_at {w : World} {a : Option Addr} {len cap : Nat} {ks is : List Int} (h : IsDo w a len cap ks is) {k : Nat} (hk : k < len) :
    ∃ ad kd ix, a = some ad ∧ ad.block < w.heap.size ∧ w.cell? (ad.add (k * 2)) = some (.int .i64 kd) ∧ w.cell? ⟨(ad.add (k * 2)).block, (ad.add (k * 2)).off + 1, none⟩ = some (.int .i64 ix) := by
  rcases h with ⟨rfl, rfl, rfl⟩ | ⟨x, rfl, h1, h2, h3, h4, hc⟩
  · omega
  · obtain ⟨c1, c2, _⟩ := hc k hk
    refine ⟨x, _, _, rfl, ?_, c1, c2⟩
    have := World.block_lt_of_cell? w _ c1
    rwa [block_of_add] at this
theorem isdo_len {w : World} {a : Option Addr} {len cap : Nat} {ks is : List Int} (h : IsDo w a len cap ks is) : len ≤ maxLen := by
  rcases h with ⟨rfl, rfl, rfl⟩ | ⟨x, rfl, h1, h2, _⟩
  · unfold maxLen; omega
  · exact Nat.le_trans h1 h2

theorem Blk.new2 (w : World) (o : Obj) (t : TypeId) (cs : Array Value) : Blk ((w.alloc o).alloc (.cells cs t)) (w.heap.size + 1) t cs := by
  have := Blk.new (w.alloc o) t cs
  simpa using this
/-- the law's own marks -/
def mkb (n m : Nat) : Array Value := ((List.range n).map fun j => Value.bool (m.testBit j)).toArray
theorem mkb_get (n m j : Nat) (h : j < n) : (mkb n m)[j]? = some (.bool (m.testBit j)) := by simp [mkb, h]
theorem mkb_zero (n : Nat) : madeCells #[.bool false] n = mkb n 0 := by
  apply Array.ext'
  rw [toList_madeCells_one]
  simp only [mkb, Nat.zero_testBit]
  rw [List.map_const', List.length_range]
theorem mkb_put (n m k : Nat) (v : Bool) (hm : m < 18446744073709551616) (hk : k < 64) : (mkb n m).setIfInBounds k (.bool v) = mkb n (put m k v) := by
  apply Array.ext_getElem?
  intro j
  rw [Array.getElem?_setIfInBounds]
  by_cases hj : j < n
  · rw [mkb_get n m j hj, mkb_get n (put m k v) j hj, put_bit m k v hm hk]
    by_cases h : k = j
    · subst h; simp [mkb, hj]
    · rw [if_neg h, if_neg (Ne.symm h)]
  · have h1 : (mkb n m)[j]? = none := Array.getElem?_eq_none (by simp [mkb]; omega)
    have h2 : (mkb n (put m k v))[j]? = none := Array.getElem?_eq_none (by simp [mkb]; omega)
    rw [h2, h1]
    by_cases h : k = j
    · subst h; simp [mkb]; omega
    · rw [if_neg h]
theorem bool_info : (Try.prog.info? 4).map (fun i => (i.zero, i.size, i.bytes)) = some (some (.bool false), 1, 1) := by kernel_rfl

theorem doR_marks {n u p m : Nat} {kd ix : Int} (h0 : 0 ≤ kd) :
    (((doR n u p m kd ix).1 = 0 ∧ kd < 3) → 0 ≤ ix ∧ ix < n ∧ (doR n u p m kd ix).2.2.2 = put m ix.toNat (kd != 1)) ∧ (¬ ((doR n u p m kd ix).1 = 0 ∧ kd < 3) → (doR n u p m kd ix).2.2.2 = m) := by
  unfold doR
  split
  · exact ⟨fun h => absurd h.1 (by simp), fun _ => rfl⟩
  · rename_i hi
    have hi : 0 ≤ ix ∧ ix < n := by omega
    split
    · rename_i h; subst h; exact ⟨fun _ => ⟨hi.1, hi.2, rfl⟩, fun h => absurd ⟨rfl, by omega⟩ h⟩
    · split
      · rename_i h; subst h; exact ⟨fun _ => ⟨hi.1, hi.2, rfl⟩, fun h => absurd ⟨rfl, by omega⟩ h⟩
      · split
        · rename_i h
          subst h
          split
          · exact ⟨fun _ => ⟨hi.1, hi.2, rfl⟩, fun h => absurd ⟨rfl, by omega⟩ h⟩
          · exact ⟨fun h => absurd h.1 (by simp), fun _ => rfl⟩
        · have h3 : ¬ kd < 3 := by omega
          split
          · split <;> exact ⟨fun h => absurd h.2 h3, fun _ => rfl⟩
          · exact ⟨fun h => absurd h.2 h3, fun _ => rfl⟩

theorem in_mem {s n j : Nat} (hn : n ≤ 64) (hj : j < n) : decide ((j : Int) ∈ mem s 64) = s.testBit j := by
  cases hb : s.testBit j
  · rw [decide_eq_false]
    intro h
    obtain ⟨i, _, h2, h3⟩ := (mem_iff s 64 _).1 h
    rw [show i = j by omega, hb] at h2
    cases h2
  · rw [decide_eq_true]
    exact (mem_iff s 64 _).2 ⟨j, by omega, hb, rfl⟩
theorem mem_at {u n : Nat} (h0 : ∀ j, n ≤ j → u.testBit j = false) {q : Nat} (hq : q < (mem u 64).length) : ∃ j, j < n ∧ (mem u 64)[q] = (j : Int) := by
  obtain ⟨j, h1, h2, h3⟩ := (mem_iff u 64 _).1 (List.getElem_mem hq)
  refine ⟨j, ?_, h3⟩
  rcases Nat.lt_or_ge j n with h | h
  · exact h
  · rw [h0 j h] at h2; cases h2

theorem doR_code (n u p m : Nat) (kd ix : Int) : (doR n u p m kd ix).1 = 0 ∨ (doR n u p m kd ix).1 = 2 ∨ (doR n u p m kd ix).1 = 11 := by
  unfold doR
  split
  · exact .inr (.inl rfl)
  · split
    · exact .inl rfl
    · split
      · exact .inl rfl
      · split
        · split
          · exact .inl rfl
          · exact .inr (.inr rfl)
        · split
          · split
            · exact .inl rfl
            · exact .inr (.inr rfl)
          · exact .inl rfl

/-- what the round's head knows -/
structure Held (w wr : World) (n u p m : Nat) : Prop where
  ring : Ring wr w.heap.size n u p m 0
  tidy : Tidy n u p m
  marks : Blk wr (w.heap.size + 1) 4 (mkb n m)
  bel : Below w.heap.size w wr

theorem eta_act (n : Nat) (a : Act) (hs : a.tmps.size = n) (hd : a.defers = []) : a = ⟨((List.range n).map fun i => a.tmps.getD i undef).toArray, []⟩ := by
  obtain ⟨t, d⟩ := a
  subst hd
  congr 1
  apply Array.ext
  · simpa using hs
  · intro i h1 h2
    simp [Array.getD, h1]
/-- which slots of the frame hold what -/
structure Fr (n k b len cap : Nat) (a1 : Option Addr) (a : Act) : Prop where
  sz : a.tmps.size = 178
  df : a.defers = []
  s0 : a.tmps.getD 0 undef = .int .i64 (n : Int)
  s1 : a.tmps.getD 1 undef = .slice a1 len cap
  s5 : a.tmps.getD 5 undef = .pointer (some ⟨b, 0, none⟩)
  s7 : a.tmps.getD 7 undef = .slice (some ⟨b + 1, 0, none⟩) n n
  s8 : a.tmps.getD 8 undef = .int .i64 (k : Int)
set_option maxRecDepth 100000 in
theorem Fr.cases {motive : Act → Prop} {n k b len cap : Nat} {a1 : Option Addr} {a : Act} (h : Fr n k b len cap a1 a) (H : ∀ v2 v3 v4 v6 v9 v10 v11 v12 v13 v14 v15 v16 v17 v18 v19 v20 v21 v22 v23 v24 v25 v26 v27 v28 v29 v30 v31 v32 v33 v34 v35 v36 v37 v38 v39 v40 v41 v42 v43 v44 v45 v46 v47 v48 v49 v50 v51 v52 v53 v54 v55 v56 v57 v58 v59 v60 v61 v62 v63 v64 v65 v66 v67 v68 v69 v70 v71 v72 v73 v74 v75 v76 v77 v78 v79 v80 v81 v82 v83 v84 v85 v86 v87 v88 v89 v90 v91 v92 v93 v94 v95 v96 v97 v98 v99 v100 v101 v102 v103 v104 v105 v106 v107 v108 v109 v110 v111 v112 v113 v114 v115 v116 v117 v118 v119 v120 v121 v122 v123 v124 v125 v126 v127 v128 v129 v130 v131 v132 v133 v134 v135 v136 v137 v138 v139 v140 v141 v142 v143 v144 v145 v146 v147 v148 v149 v150 v151 v152 v153 v154 v155 v156 v157 v158 v159 v160 v161 v162 v163 v164 v165 v166 v167 v168 v169 v170 v171 v172 v173 v174 v175 v176 v177 : Value, motive ⟨(.int .i64 (n : Int) :: .slice a1 len cap :: v2 :: v3 :: v4 :: .pointer (some ⟨b, 0, none⟩) :: v6 :: .slice (some ⟨b + 1, 0, none⟩) n n :: .int .i64 (k : Int) :: v9 :: v10 :: v11 :: v12 :: v13 :: v14 :: v15 :: v16 :: v17 :: v18 :: v19 :: v20 :: v21 :: v22 :: v23 :: v24 :: v25 :: v26 :: v27 :: v28 :: v29 :: v30 :: v31 :: v32 :: v33 :: v34 :: v35 :: v36 :: v37 :: v38 :: v39 :: v40 :: v41 :: v42 :: v43 :: v44 :: v45 :: v46 :: v47 :: v48 :: v49 :: v50 :: v51 :: v52 :: v53 :: v54 :: v55 :: v56 :: v57 :: v58 :: v59 :: v60 :: v61 :: v62 :: v63 :: v64 :: v65 :: v66 :: v67 :: v68 :: v69 :: v70 :: v71 :: v72 :: v73 :: v74 :: v75 :: v76 :: v77 :: v78 :: v79 :: v80 :: v81 :: v82 :: v83 :: v84 :: v85 :: v86 :: v87 :: v88 :: v89 :: v90 :: v91 :: v92 :: v93 :: v94 :: v95 :: v96 :: v97 :: v98 :: v99 :: v100 :: v101 :: v102 :: v103 :: v104 :: v105 :: v106 :: v107 :: v108 :: v109 :: v110 :: v111 :: v112 :: v113 :: v114 :: v115 :: v116 :: v117 :: v118 :: v119 :: v120 :: v121 :: v122 :: v123 :: v124 :: v125 :: v126 :: v127 :: v128 :: v129 :: v130 :: v131 :: v132 :: v133 :: v134 :: v135 :: v136 :: v137 :: v138 :: v139 :: v140 :: v141 :: v142 :: v143 :: v144 :: v145 :: v146 :: v147 :: v148 :: v149 :: v150 :: v151 :: v152 :: v153 :: v154 :: v155 :: v156 :: v157 :: v158 :: v159 :: v160 :: v161 :: v162 :: v163 :: v164 :: v165 :: v166 :: v167 :: v168 :: v169 :: v170 :: v171 :: v172 :: v173 :: v174 :: v175 :: v176 :: v177 :: []).toArray, []⟩) : motive a := by
  have e := eta_act 178 a h.sz h.df
  have H2 := H (a.tmps.getD 2 undef) (a.tmps.getD 3 undef) (a.tmps.getD 4 undef) (a.tmps.getD 6 undef) (a.tmps.getD 9 undef) (a.tmps.getD 10 undef) (a.tmps.getD 11 undef) (a.tmps.getD 12 undef) (a.tmps.getD 13 undef) (a.tmps.getD 14 undef) (a.tmps.getD 15 undef) (a.tmps.getD 16 undef) (a.tmps.getD 17 undef) (a.tmps.getD 18 undef) (a.tmps.getD 19 undef) (a.tmps.getD 20 undef) (a.tmps.getD 21 undef) (a.tmps.getD 22 undef) (a.tmps.getD 23 undef) (a.tmps.getD 24 undef) (a.tmps.getD 25 undef) (a.tmps.getD 26 undef) (a.tmps.getD 27 undef) (a.tmps.getD 28 undef) (a.tmps.getD 29 undef) (a.tmps.getD 30 undef) (a.tmps.getD 31 undef) (a.tmps.getD 32 undef) (a.tmps.getD 33 undef) (a.tmps.getD 34 undef) (a.tmps.getD 35 undef) (a.tmps.getD 36 undef) (a.tmps.getD 37 undef) (a.tmps.getD 38 undef) (a.tmps.getD 39 undef) (a.tmps.getD 40 undef) (a.tmps.getD 41 undef) (a.tmps.getD 42 undef) (a.tmps.getD 43 undef) (a.tmps.getD 44 undef) (a.tmps.getD 45 undef) (a.tmps.getD 46 undef) (a.tmps.getD 47 undef) (a.tmps.getD 48 undef) (a.tmps.getD 49 undef) (a.tmps.getD 50 undef) (a.tmps.getD 51 undef) (a.tmps.getD 52 undef) (a.tmps.getD 53 undef) (a.tmps.getD 54 undef) (a.tmps.getD 55 undef) (a.tmps.getD 56 undef) (a.tmps.getD 57 undef) (a.tmps.getD 58 undef) (a.tmps.getD 59 undef) (a.tmps.getD 60 undef) (a.tmps.getD 61 undef) (a.tmps.getD 62 undef) (a.tmps.getD 63 undef) (a.tmps.getD 64 undef) (a.tmps.getD 65 undef) (a.tmps.getD 66 undef) (a.tmps.getD 67 undef) (a.tmps.getD 68 undef) (a.tmps.getD 69 undef) (a.tmps.getD 70 undef) (a.tmps.getD 71 undef) (a.tmps.getD 72 undef) (a.tmps.getD 73 undef) (a.tmps.getD 74 undef) (a.tmps.getD 75 undef) (a.tmps.getD 76 undef) (a.tmps.getD 77 undef) (a.tmps.getD 78 undef) (a.tmps.getD 79 undef) (a.tmps.getD 80 undef) (a.tmps.getD 81 undef) (a.tmps.getD 82 undef) (a.tmps.getD 83 undef) (a.tmps.getD 84 undef) (a.tmps.getD 85 undef) (a.tmps.getD 86 undef) (a.tmps.getD 87 undef) (a.tmps.getD 88 undef) (a.tmps.getD 89 undef) (a.tmps.getD 90 undef) (a.tmps.getD 91 undef) (a.tmps.getD 92 undef) (a.tmps.getD 93 undef) (a.tmps.getD 94 undef) (a.tmps.getD 95 undef) (a.tmps.getD 96 undef) (a.tmps.getD 97 undef) (a.tmps.getD 98 undef) (a.tmps.getD 99 undef) (a.tmps.getD 100 undef) (a.tmps.getD 101 undef) (a.tmps.getD 102 undef) (a.tmps.getD 103 undef) (a.tmps.getD 104 undef) (a.tmps.getD 105 undef) (a.tmps.getD 106 undef) (a.tmps.getD 107 undef) (a.tmps.getD 108 undef) (a.tmps.getD 109 undef) (a.tmps.getD 110 undef) (a.tmps.getD 111 undef) (a.tmps.getD 112 undef) (a.tmps.getD 113 undef) (a.tmps.getD 114 undef) (a.tmps.getD 115 undef) (a.tmps.getD 116 undef) (a.tmps.getD 117 undef) (a.tmps.getD 118 undef) (a.tmps.getD 119 undef) (a.tmps.getD 120 undef) (a.tmps.getD 121 undef) (a.tmps.getD 122 undef) (a.tmps.getD 123 undef) (a.tmps.getD 124 undef) (a.tmps.getD 125 undef) (a.tmps.getD 126 undef) (a.tmps.getD 127 undef) (a.tmps.getD 128 undef) (a.tmps.getD 129 undef) (a.tmps.getD 130 undef) (a.tmps.getD 131 undef) (a.tmps.getD 132 undef) (a.tmps.getD 133 undef) (a.tmps.getD 134 undef) (a.tmps.getD 135 undef) (a.tmps.getD 136 undef) (a.tmps.getD 137 undef) (a.tmps.getD 138 undef) (a.tmps.getD 139 undef) (a.tmps.getD 140 undef) (a.tmps.getD 141 undef) (a.tmps.getD 142 undef) (a.tmps.getD 143 undef) (a.tmps.getD 144 undef) (a.tmps.getD 145 undef) (a.tmps.getD 146 undef) (a.tmps.getD 147 undef) (a.tmps.getD 148 undef) (a.tmps.getD 149 undef) (a.tmps.getD 150 undef) (a.tmps.getD 151 undef) (a.tmps.getD 152 undef) (a.tmps.getD 153 undef) (a.tmps.getD 154 undef) (a.tmps.getD 155 undef) (a.tmps.getD 156 undef) (a.tmps.getD 157 undef) (a.tmps.getD 158 undef) (a.tmps.getD 159 undef) (a.tmps.getD 160 undef) (a.tmps.getD 161 undef) (a.tmps.getD 162 undef) (a.tmps.getD 163 undef) (a.tmps.getD 164 undef) (a.tmps.getD 165 undef) (a.tmps.getD 166 undef) (a.tmps.getD 167 undef) (a.tmps.getD 168 undef) (a.tmps.getD 169 undef) (a.tmps.getD 170 undef) (a.tmps.getD 171 undef) (a.tmps.getD 172 undef) (a.tmps.getD 173 undef) (a.tmps.getD 174 undef) (a.tmps.getD 175 undef) (a.tmps.getD 176 undef) (a.tmps.getD 177 undef)
  rw [← h.s0, ← h.s1, ← h.s5, ← h.s7, ← h.s8] at H2
  rw [e]
  exact H2
/-- the first loop in a text, and what its round runs -/
def firstLoop : Code → Option Code
  | .loop c => some c
  | .seq a b => match firstLoop a with
    | some c => some c
    | none => firstLoop b
  | .block _ c => firstLoop c
  | .scope c => firstLoop c
  | .cond _ a b => match firstLoop a with
    | some c => some c
    | none => firstLoop b
  | _ => none
noncomputable def spBody : Code := ((Try.f3.body.bind firstLoop).getD .skip)
noncomputable def spInner : Code := (firstLoop spBody).getD .skip

end Go.Proofs.Ytoiabaienhchjaa
