/- The inner loop of ClockSpares: how many used places are neither marked nor pinned. -/
import Derived.Test.YtoiabaienhchjaaN
namespace Go.Proofs.Ytoiabaienhchjaa
open Go.RowKit
set_option linter.unusedVariables false

/-- which slots of the frame hold what -/
structure Fr2 (n k b len cap : Nat) (a1 A3 A4 : Option Addr) (l3 c3 l4 c4 x D q : Nat) (a : Act) : Prop where
  sz : a.tmps.size = 178
  df : a.defers = []
  s0 : a.tmps.getD 0 undef = .int .i64 (n : Int)
  s1 : a.tmps.getD 1 undef = .slice a1 len cap
  s5 : a.tmps.getD 5 undef = .pointer (some ⟨b, 0, none⟩)
  s7 : a.tmps.getD 7 undef = .slice (some ⟨b + 1, 0, none⟩) n n
  s8 : a.tmps.getD 8 undef = .int .i64 (k : Int)
  s9 : a.tmps.getD 9 undef = .slice A3 l3 c3
  s10 : a.tmps.getD 10 undef = .slice A4 l4 c4
  s11 : a.tmps.getD 11 undef = .int .i64 (x : Int)
  s13 : a.tmps.getD 13 undef = .int .i64 (D : Int)
  s14 : a.tmps.getD 14 undef = .int .i64 (q : Int)
set_option maxRecDepth 100000 in
theorem Fr2.cases {motive : Act → Prop} {n k b len cap : Nat} {a1 A3 A4 : Option Addr} {l3 c3 l4 c4 x D q : Nat} {a : Act} (h : Fr2 n k b len cap a1 A3 A4 l3 c3 l4 c4 x D q a) (H : ∀ v2 v3 v4 v6 v12 v15 v16 v17 v18 v19 v20 v21 v22 v23 v24 v25 v26 v27 v28 v29 v30 v31 v32 v33 v34 v35 v36 v37 v38 v39 v40 v41 v42 v43 v44 v45 v46 v47 v48 v49 v50 v51 v52 v53 v54 v55 v56 v57 v58 v59 v60 v61 v62 v63 v64 v65 v66 v67 v68 v69 v70 v71 v72 v73 v74 v75 v76 v77 v78 v79 v80 v81 v82 v83 v84 v85 v86 v87 v88 v89 v90 v91 v92 v93 v94 v95 v96 v97 v98 v99 v100 v101 v102 v103 v104 v105 v106 v107 v108 v109 v110 v111 v112 v113 v114 v115 v116 v117 v118 v119 v120 v121 v122 v123 v124 v125 v126 v127 v128 v129 v130 v131 v132 v133 v134 v135 v136 v137 v138 v139 v140 v141 v142 v143 v144 v145 v146 v147 v148 v149 v150 v151 v152 v153 v154 v155 v156 v157 v158 v159 v160 v161 v162 v163 v164 v165 v166 v167 v168 v169 v170 v171 v172 v173 v174 v175 v176 v177 : Value, motive ⟨(.int .i64 (n : Int) :: .slice a1 len cap :: v2 :: v3 :: v4 :: .pointer (some ⟨b, 0, none⟩) :: v6 :: .slice (some ⟨b + 1, 0, none⟩) n n :: .int .i64 (k : Int) :: .slice A3 l3 c3 :: .slice A4 l4 c4 :: .int .i64 (x : Int) :: v12 :: .int .i64 (D : Int) :: .int .i64 (q : Int) :: v15 :: v16 :: v17 :: v18 :: v19 :: v20 :: v21 :: v22 :: v23 :: v24 :: v25 :: v26 :: v27 :: v28 :: v29 :: v30 :: v31 :: v32 :: v33 :: v34 :: v35 :: v36 :: v37 :: v38 :: v39 :: v40 :: v41 :: v42 :: v43 :: v44 :: v45 :: v46 :: v47 :: v48 :: v49 :: v50 :: v51 :: v52 :: v53 :: v54 :: v55 :: v56 :: v57 :: v58 :: v59 :: v60 :: v61 :: v62 :: v63 :: v64 :: v65 :: v66 :: v67 :: v68 :: v69 :: v70 :: v71 :: v72 :: v73 :: v74 :: v75 :: v76 :: v77 :: v78 :: v79 :: v80 :: v81 :: v82 :: v83 :: v84 :: v85 :: v86 :: v87 :: v88 :: v89 :: v90 :: v91 :: v92 :: v93 :: v94 :: v95 :: v96 :: v97 :: v98 :: v99 :: v100 :: v101 :: v102 :: v103 :: v104 :: v105 :: v106 :: v107 :: v108 :: v109 :: v110 :: v111 :: v112 :: v113 :: v114 :: v115 :: v116 :: v117 :: v118 :: v119 :: v120 :: v121 :: v122 :: v123 :: v124 :: v125 :: v126 :: v127 :: v128 :: v129 :: v130 :: v131 :: v132 :: v133 :: v134 :: v135 :: v136 :: v137 :: v138 :: v139 :: v140 :: v141 :: v142 :: v143 :: v144 :: v145 :: v146 :: v147 :: v148 :: v149 :: v150 :: v151 :: v152 :: v153 :: v154 :: v155 :: v156 :: v157 :: v158 :: v159 :: v160 :: v161 :: v162 :: v163 :: v164 :: v165 :: v166 :: v167 :: v168 :: v169 :: v170 :: v171 :: v172 :: v173 :: v174 :: v175 :: v176 :: v177 :: []).toArray, []⟩) : motive a := by
  have e := eta_act 178 a h.sz h.df
  have H2 := H (a.tmps.getD 2 undef) (a.tmps.getD 3 undef) (a.tmps.getD 4 undef) (a.tmps.getD 6 undef) (a.tmps.getD 12 undef) (a.tmps.getD 15 undef) (a.tmps.getD 16 undef) (a.tmps.getD 17 undef) (a.tmps.getD 18 undef) (a.tmps.getD 19 undef) (a.tmps.getD 20 undef) (a.tmps.getD 21 undef) (a.tmps.getD 22 undef) (a.tmps.getD 23 undef) (a.tmps.getD 24 undef) (a.tmps.getD 25 undef) (a.tmps.getD 26 undef) (a.tmps.getD 27 undef) (a.tmps.getD 28 undef) (a.tmps.getD 29 undef) (a.tmps.getD 30 undef) (a.tmps.getD 31 undef) (a.tmps.getD 32 undef) (a.tmps.getD 33 undef) (a.tmps.getD 34 undef) (a.tmps.getD 35 undef) (a.tmps.getD 36 undef) (a.tmps.getD 37 undef) (a.tmps.getD 38 undef) (a.tmps.getD 39 undef) (a.tmps.getD 40 undef) (a.tmps.getD 41 undef) (a.tmps.getD 42 undef) (a.tmps.getD 43 undef) (a.tmps.getD 44 undef) (a.tmps.getD 45 undef) (a.tmps.getD 46 undef) (a.tmps.getD 47 undef) (a.tmps.getD 48 undef) (a.tmps.getD 49 undef) (a.tmps.getD 50 undef) (a.tmps.getD 51 undef) (a.tmps.getD 52 undef) (a.tmps.getD 53 undef) (a.tmps.getD 54 undef) (a.tmps.getD 55 undef) (a.tmps.getD 56 undef) (a.tmps.getD 57 undef) (a.tmps.getD 58 undef) (a.tmps.getD 59 undef) (a.tmps.getD 60 undef) (a.tmps.getD 61 undef) (a.tmps.getD 62 undef) (a.tmps.getD 63 undef) (a.tmps.getD 64 undef) (a.tmps.getD 65 undef) (a.tmps.getD 66 undef) (a.tmps.getD 67 undef) (a.tmps.getD 68 undef) (a.tmps.getD 69 undef) (a.tmps.getD 70 undef) (a.tmps.getD 71 undef) (a.tmps.getD 72 undef) (a.tmps.getD 73 undef) (a.tmps.getD 74 undef) (a.tmps.getD 75 undef) (a.tmps.getD 76 undef) (a.tmps.getD 77 undef) (a.tmps.getD 78 undef) (a.tmps.getD 79 undef) (a.tmps.getD 80 undef) (a.tmps.getD 81 undef) (a.tmps.getD 82 undef) (a.tmps.getD 83 undef) (a.tmps.getD 84 undef) (a.tmps.getD 85 undef) (a.tmps.getD 86 undef) (a.tmps.getD 87 undef) (a.tmps.getD 88 undef) (a.tmps.getD 89 undef) (a.tmps.getD 90 undef) (a.tmps.getD 91 undef) (a.tmps.getD 92 undef) (a.tmps.getD 93 undef) (a.tmps.getD 94 undef) (a.tmps.getD 95 undef) (a.tmps.getD 96 undef) (a.tmps.getD 97 undef) (a.tmps.getD 98 undef) (a.tmps.getD 99 undef) (a.tmps.getD 100 undef) (a.tmps.getD 101 undef) (a.tmps.getD 102 undef) (a.tmps.getD 103 undef) (a.tmps.getD 104 undef) (a.tmps.getD 105 undef) (a.tmps.getD 106 undef) (a.tmps.getD 107 undef) (a.tmps.getD 108 undef) (a.tmps.getD 109 undef) (a.tmps.getD 110 undef) (a.tmps.getD 111 undef) (a.tmps.getD 112 undef) (a.tmps.getD 113 undef) (a.tmps.getD 114 undef) (a.tmps.getD 115 undef) (a.tmps.getD 116 undef) (a.tmps.getD 117 undef) (a.tmps.getD 118 undef) (a.tmps.getD 119 undef) (a.tmps.getD 120 undef) (a.tmps.getD 121 undef) (a.tmps.getD 122 undef) (a.tmps.getD 123 undef) (a.tmps.getD 124 undef) (a.tmps.getD 125 undef) (a.tmps.getD 126 undef) (a.tmps.getD 127 undef) (a.tmps.getD 128 undef) (a.tmps.getD 129 undef) (a.tmps.getD 130 undef) (a.tmps.getD 131 undef) (a.tmps.getD 132 undef) (a.tmps.getD 133 undef) (a.tmps.getD 134 undef) (a.tmps.getD 135 undef) (a.tmps.getD 136 undef) (a.tmps.getD 137 undef) (a.tmps.getD 138 undef) (a.tmps.getD 139 undef) (a.tmps.getD 140 undef) (a.tmps.getD 141 undef) (a.tmps.getD 142 undef) (a.tmps.getD 143 undef) (a.tmps.getD 144 undef) (a.tmps.getD 145 undef) (a.tmps.getD 146 undef) (a.tmps.getD 147 undef) (a.tmps.getD 148 undef) (a.tmps.getD 149 undef) (a.tmps.getD 150 undef) (a.tmps.getD 151 undef) (a.tmps.getD 152 undef) (a.tmps.getD 153 undef) (a.tmps.getD 154 undef) (a.tmps.getD 155 undef) (a.tmps.getD 156 undef) (a.tmps.getD 157 undef) (a.tmps.getD 158 undef) (a.tmps.getD 159 undef) (a.tmps.getD 160 undef) (a.tmps.getD 161 undef) (a.tmps.getD 162 undef) (a.tmps.getD 163 undef) (a.tmps.getD 164 undef) (a.tmps.getD 165 undef) (a.tmps.getD 166 undef) (a.tmps.getD 167 undef) (a.tmps.getD 168 undef) (a.tmps.getD 169 undef) (a.tmps.getD 170 undef) (a.tmps.getD 171 undef) (a.tmps.getD 172 undef) (a.tmps.getD 173 undef) (a.tmps.getD 174 undef) (a.tmps.getD 175 undef) (a.tmps.getD 176 undef) (a.tmps.getD 177 undef)
  rw [← h.s0, ← h.s1, ← h.s5, ← h.s7, ← h.s8, ← h.s9, ← h.s10, ← h.s11, ← h.s13, ← h.s14] at H2
  rw [e]
  exact H2

/-- the count is none, or there is a place that is neither pinned nor marked -/
def Found (n p m D : Nat) : Prop := D = 0 ∨ ∃ j, j < n ∧ p.testBit j = false ∧ m.testBit j = false

section
variable {Q : Exit → Act → World → Prop} {a : Act} {w : World} {n k b len cap p m : Nat} {a1 A3 A4 : Option Addr} {c3 c4 x D q : Nat} {U V : List Int}

set_option maxRecDepth 1000000 in
set_option maxHeartbeats 2000000 in
theorem plain_round (hfr : Fr2 n k b len cap a1 A3 A4 U.length c3 V.length c4 x D q a) (hn64 : n ≤ 64) (hU64 : U.length ≤ 64) (hV64 : V.length ≤ 64) (hq : q < U.length) (hDq : D ≤ q)
    (h3 : Reads w w.heap.size 1 A3 U.length (vi U)) (h4 : Reads w w.heap.size 1 A4 V.length (vi V)) (hU : ∀ i (h : i < U.length), ∃ j, j < n ∧ U[i] = (j : Int)) (hV : ∀ j, j < n → decide ((j : Int) ∈ V) = p.testBit j)
    (hm : Blk w (b + 1) 4 (mkb n m)) (hD : Found n p m D)
    (hnext : ∀ a' D', Fr2 n k b len cap a1 A3 A4 U.length c3 V.length c4 x D' (q + 1) a' → D' ≤ q + 1 → Found n p m D' → Q .normal a' w) : Code.wp Try.prog spInner Q a w := by
  have HN := hide hnext
  have HD := Lib.hid hD
  have HV := Lib.hid hV
  obtain ⟨ad3, rfl, hadb3, hcq⟩ := reads_at h3 rfl hq
  obtain ⟨j, hjn, hje⟩ := hU q hq
  rw [hje] at hcq
  have hcm := hm.cell j
  rw [mkb_get n m j hjn] at hcm
  clear hnext hD hV hU hje hm
  cases hmj : m.testBit j
  · rw [hmj] at hcm
    have HM := Lib.hid hmj
    cases hpj : p.testBit j
    · have HP := Lib.hid hpj
      clear hpj hmj
      refine Fr2.cases (motive := fun a => Code.wp Try.prog spInner Q a w) hfr ?_
      clear hfr
      intros
      conv => arg 2; whnf
      go_wp2_with (go_at_call 12; refine (in_any _ _ _ V (j : Int) _ h4 rfl hV64).mono ?_; rw [HV.out j hjn, HP.out]; rintro e w6 ⟨rfl, rfl⟩)
      exact (unhide HN) _ (D + 1) ⟨rfl, rfl, rfl, rfl, rfl, rfl, rfl, rfl, rfl, rfl, by go_num, by go_num⟩ (by omega) (.inr ⟨j, hjn, HP.out, HM.out⟩)
    · have HP := Lib.hid hpj
      clear hpj hmj
      refine Fr2.cases (motive := fun a => Code.wp Try.prog spInner Q a w) hfr ?_
      clear hfr
      intros
      conv => arg 2; whnf
      go_wp2_with (go_at_call 12; refine (in_any _ _ _ V (j : Int) _ h4 rfl hV64).mono ?_; rw [HV.out j hjn, HP.out]; rintro e w6 ⟨rfl, rfl⟩)
      exact (unhide HN) _ D ⟨rfl, rfl, rfl, rfl, rfl, rfl, rfl, rfl, rfl, rfl, rfl, by go_num⟩ (by omega) HD.out
  · rw [hmj] at hcm
    clear hmj
    refine Fr2.cases (motive := fun a => Code.wp Try.prog spInner Q a w) hfr ?_
    clear hfr
    intros
    conv => arg 2; whnf
    go_wp2_with fail
    exact (unhide HN) _ D ⟨rfl, rfl, rfl, rfl, rfl, rfl, rfl, rfl, rfl, rfl, rfl, by go_num⟩ (by omega) HD.out

set_option maxRecDepth 1000000 in
set_option maxHeartbeats 2000000 in
theorem plain_end (hfr : Fr2 n k b len cap a1 A3 A4 U.length c3 V.length c4 x D U.length a) (hU64 : U.length ≤ 64)
    (hexit : ∀ a', Fr2 n k b len cap a1 A3 A4 U.length c3 V.length c4 x D U.length a' → Q (.exit 2) a' w) : Code.wp Try.prog spInner Q a w := by
  have HN := hide hexit
  clear hexit
  refine Fr2.cases (motive := fun a => Code.wp Try.prog spInner Q a w) hfr ?_
  clear hfr
  intros
  conv => arg 2; whnf
  go_wp2_with fail
  exact (unhide HN) _ ⟨rfl, rfl, rfl, rfl, rfl, rfl, rfl, rfl, rfl, rfl, rfl, rfl⟩

theorem plain_loop (hfr : Fr2 n k b len cap a1 A3 A4 U.length c3 V.length c4 x 0 0 a) (hn64 : n ≤ 64) (hU64 : U.length ≤ 64) (hV64 : V.length ≤ 64)
    (h3 : Reads w w.heap.size 1 A3 U.length (vi U)) (h4 : Reads w w.heap.size 1 A4 V.length (vi V)) (hU : ∀ i (h : i < U.length), ∃ j, j < n ∧ U[i] = (j : Int)) (hV : ∀ j, j < n → decide ((j : Int) ∈ V) = p.testBit j)
    (hm : Blk w (b + 1) 4 (mkb n m))
    (hexit : ∀ a' D, Fr2 n k b len cap a1 A3 A4 U.length c3 V.length c4 x D U.length a' → D ≤ 64 → Found n p m D → Q (.exit 2) a' w) : Code.wp Try.prog (.loop spInner) Q a w := by
  refine wp_loop (fun a' w' => w' = w ∧ ∃ D q, q ≤ U.length ∧ D ≤ q ∧ Fr2 n k b len cap a1 A3 A4 U.length c3 V.length c4 x D q a' ∧ Found n p m D) (fun a' _ => U.length - (intOf (a'.tmps.getD 14 undef)).toNat)
    ⟨rfl, 0, 0, Nat.zero_le _, Nat.le_refl _, hfr, .inl rfl⟩ ?_
  rintro a' w' ⟨rfl, D, q, hq, hDq, hf, hF⟩
  by_cases hlt : q < U.length
  · refine plain_round hf hn64 hU64 hV64 hlt hDq h3 h4 hU hV hm hF ?_
    intro a'' D' hf' hD' hF'
    refine ⟨⟨rfl, D', q + 1, by omega, hD', hf', hF'⟩, ?_⟩
    show U.length - (intOf (a''.tmps.getD 14 undef)).toNat < U.length - (intOf (a'.tmps.getD 14 undef)).toNat
    rw [hf.s14, hf'.s14]
    simp [intOf]; omega
  · obtain rfl : q = U.length := by omega
    refine plain_end hf hU64 ?_
    intro a'' hf'
    exact hexit a'' D hf' (by omega) hF
end

end Go.Proofs.Ytoiabaienhchjaa
