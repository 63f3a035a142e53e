/- The rounds of ClockPlays, one theorem a case. -/
import Derived.Test.YtoiabaienhchjaaZ
import Derived.Test.YtoiabaienhchjaaL
namespace Go.Proofs.Ytoiabaienhchjaa
open Go.RowKit
set_option linter.unusedVariables false

/-- which slots of the frame hold what -/
structure FrP (k b len cap : Nat) (a1 : Option Addr) (a : Act) : Prop where
  sz : a.tmps.size = 134
  df : a.defers = []
  s1 : a.tmps.getD 1 undef = .slice a1 len cap
  s5 : a.tmps.getD 5 undef = .pointer (some ⟨b, 0, none⟩)
  s7 : a.tmps.getD 7 undef = .pointer (some ⟨b + 2, 0, none⟩)
  s9 : a.tmps.getD 9 undef = .int .i64 (k : Int)
set_option maxRecDepth 100000 in
theorem FrP.cases {motive : Act → Prop} {k b len cap : Nat} {a1 : Option Addr} {a : Act} (h : FrP k b len cap a1 a) (H : ∀ v0 v2 v3 v4 v6 v8 v10 v11 v12 v13 v14 v15 v16 v17 v18 v19 v20 v21 v22 v23 v24 v25 v26 v27 v28 v29 v30 v31 v32 v33 v34 v35 v36 v37 v38 v39 v40 v41 v42 v43 v44 v45 v46 v47 v48 v49 v50 v51 v52 v53 v54 v55 v56 v57 v58 v59 v60 v61 v62 v63 v64 v65 v66 v67 v68 v69 v70 v71 v72 v73 v74 v75 v76 v77 v78 v79 v80 v81 v82 v83 v84 v85 v86 v87 v88 v89 v90 v91 v92 v93 v94 v95 v96 v97 v98 v99 v100 v101 v102 v103 v104 v105 v106 v107 v108 v109 v110 v111 v112 v113 v114 v115 v116 v117 v118 v119 v120 v121 v122 v123 v124 v125 v126 v127 v128 v129 v130 v131 v132 v133 : Value, motive ⟨(v0 :: .slice a1 len cap :: v2 :: v3 :: v4 :: .pointer (some ⟨b, 0, none⟩) :: v6 :: .pointer (some ⟨b + 2, 0, none⟩) :: v8 :: .int .i64 (k : Int) :: v10 :: v11 :: v12 :: v13 :: v14 :: v15 :: v16 :: v17 :: v18 :: v19 :: v20 :: v21 :: v22 :: v23 :: v24 :: v25 :: v26 :: v27 :: v28 :: v29 :: v30 :: v31 :: v32 :: v33 :: v34 :: v35 :: v36 :: v37 :: v38 :: v39 :: v40 :: v41 :: v42 :: v43 :: v44 :: v45 :: v46 :: v47 :: v48 :: v49 :: v50 :: v51 :: v52 :: v53 :: v54 :: v55 :: v56 :: v57 :: v58 :: v59 :: v60 :: v61 :: v62 :: v63 :: v64 :: v65 :: v66 :: v67 :: v68 :: v69 :: v70 :: v71 :: v72 :: v73 :: v74 :: v75 :: v76 :: v77 :: v78 :: v79 :: v80 :: v81 :: v82 :: v83 :: v84 :: v85 :: v86 :: v87 :: v88 :: v89 :: v90 :: v91 :: v92 :: v93 :: v94 :: v95 :: v96 :: v97 :: v98 :: v99 :: v100 :: v101 :: v102 :: v103 :: v104 :: v105 :: v106 :: v107 :: v108 :: v109 :: v110 :: v111 :: v112 :: v113 :: v114 :: v115 :: v116 :: v117 :: v118 :: v119 :: v120 :: v121 :: v122 :: v123 :: v124 :: v125 :: v126 :: v127 :: v128 :: v129 :: v130 :: v131 :: v132 :: v133 :: []).toArray, []⟩) : motive a := by
  have e := eta_act 134 a h.sz h.df
  have H2 := H (a.tmps.getD 0 undef) (a.tmps.getD 2 undef) (a.tmps.getD 3 undef) (a.tmps.getD 4 undef) (a.tmps.getD 6 undef) (a.tmps.getD 8 undef) (a.tmps.getD 10 undef) (a.tmps.getD 11 undef) (a.tmps.getD 12 undef) (a.tmps.getD 13 undef) (a.tmps.getD 14 undef) (a.tmps.getD 15 undef) (a.tmps.getD 16 undef) (a.tmps.getD 17 undef) (a.tmps.getD 18 undef) (a.tmps.getD 19 undef) (a.tmps.getD 20 undef) (a.tmps.getD 21 undef) (a.tmps.getD 22 undef) (a.tmps.getD 23 undef) (a.tmps.getD 24 undef) (a.tmps.getD 25 undef) (a.tmps.getD 26 undef) (a.tmps.getD 27 undef) (a.tmps.getD 28 undef) (a.tmps.getD 29 undef) (a.tmps.getD 30 undef) (a.tmps.getD 31 undef) (a.tmps.getD 32 undef) (a.tmps.getD 33 undef) (a.tmps.getD 34 undef) (a.tmps.getD 35 undef) (a.tmps.getD 36 undef) (a.tmps.getD 37 undef) (a.tmps.getD 38 undef) (a.tmps.getD 39 undef) (a.tmps.getD 40 undef) (a.tmps.getD 41 undef) (a.tmps.getD 42 undef) (a.tmps.getD 43 undef) (a.tmps.getD 44 undef) (a.tmps.getD 45 undef) (a.tmps.getD 46 undef) (a.tmps.getD 47 undef) (a.tmps.getD 48 undef) (a.tmps.getD 49 undef) (a.tmps.getD 50 undef) (a.tmps.getD 51 undef) (a.tmps.getD 52 undef) (a.tmps.getD 53 undef) (a.tmps.getD 54 undef) (a.tmps.getD 55 undef) (a.tmps.getD 56 undef) (a.tmps.getD 57 undef) (a.tmps.getD 58 undef) (a.tmps.getD 59 undef) (a.tmps.getD 60 undef) (a.tmps.getD 61 undef) (a.tmps.getD 62 undef) (a.tmps.getD 63 undef) (a.tmps.getD 64 undef) (a.tmps.getD 65 undef) (a.tmps.getD 66 undef) (a.tmps.getD 67 undef) (a.tmps.getD 68 undef) (a.tmps.getD 69 undef) (a.tmps.getD 70 undef) (a.tmps.getD 71 undef) (a.tmps.getD 72 undef) (a.tmps.getD 73 undef) (a.tmps.getD 74 undef) (a.tmps.getD 75 undef) (a.tmps.getD 76 undef) (a.tmps.getD 77 undef) (a.tmps.getD 78 undef) (a.tmps.getD 79 undef) (a.tmps.getD 80 undef) (a.tmps.getD 81 undef) (a.tmps.getD 82 undef) (a.tmps.getD 83 undef) (a.tmps.getD 84 undef) (a.tmps.getD 85 undef) (a.tmps.getD 86 undef) (a.tmps.getD 87 undef) (a.tmps.getD 88 undef) (a.tmps.getD 89 undef) (a.tmps.getD 90 undef) (a.tmps.getD 91 undef) (a.tmps.getD 92 undef) (a.tmps.getD 93 undef) (a.tmps.getD 94 undef) (a.tmps.getD 95 undef) (a.tmps.getD 96 undef) (a.tmps.getD 97 undef) (a.tmps.getD 98 undef) (a.tmps.getD 99 undef) (a.tmps.getD 100 undef) (a.tmps.getD 101 undef) (a.tmps.getD 102 undef) (a.tmps.getD 103 undef) (a.tmps.getD 104 undef) (a.tmps.getD 105 undef) (a.tmps.getD 106 undef) (a.tmps.getD 107 undef) (a.tmps.getD 108 undef) (a.tmps.getD 109 undef) (a.tmps.getD 110 undef) (a.tmps.getD 111 undef) (a.tmps.getD 112 undef) (a.tmps.getD 113 undef) (a.tmps.getD 114 undef) (a.tmps.getD 115 undef) (a.tmps.getD 116 undef) (a.tmps.getD 117 undef) (a.tmps.getD 118 undef) (a.tmps.getD 119 undef) (a.tmps.getD 120 undef) (a.tmps.getD 121 undef) (a.tmps.getD 122 undef) (a.tmps.getD 123 undef) (a.tmps.getD 124 undef) (a.tmps.getD 125 undef) (a.tmps.getD 126 undef) (a.tmps.getD 127 undef) (a.tmps.getD 128 undef) (a.tmps.getD 129 undef) (a.tmps.getD 130 undef) (a.tmps.getD 131 undef) (a.tmps.getD 132 undef) (a.tmps.getD 133 undef)
  rw [← h.s1, ← h.s5, ← h.s7, ← h.s9] at H2
  rw [e]
  exact H2

noncomputable def plBody : Code := ((Try.f4.body.bind firstLoop).getD .skip)
section
variable {Q : Exit → Act → World → Prop} {a : Act} {w wr : World} {n k len cap u p m h : Nat} {ad : Addr} {kd ix : Int}

set_option maxRecDepth 1000000 in
set_option maxHeartbeats 4000000 in
theorem plays_does (hfr : FrP k w.heap.size len cap (some ad) a) (hh : Two w wr n u p m h) (hk : k < len) (hk80 : k < 80) (hlen : len ≤ 9223372036854775807) (hit : Item w wr ad k kd ix)
    (q0 : 0 ≤ kd) (q5 : kd < 5)
    (hnext : ∀ a' w' u2 p2 m2 h2, FrP (k + 1) w.heap.size len cap (some ad) a' → Two w w' n u2 p2 m2 h2 → Q .normal a' w') : Code.wp Try.prog plBody Q a wr := by
  have HN := hide hnext
  have HH := Lib.hid hh
  have HI := Lib.hid hit
  have hadb := hit.adb
  have hk0 := hit.c0
  have hk1 := hit.c1
  have hn64 := hh.ring.n64
  have q5' : decide (kd < 5) = true := decide_eq_true q5
  have hD := does_any w.heap.size n u p m h kd ix (wr.drewN 1) (hh.ring.drewN 1)
  have hE := fun (W : World) (r : RRing W (w.heap.size + 2) (w.heap.size + 1) n u p m h) => rdo_any r kd ix
  have hT := doR_tidy kd ix hh.tidy hn64 hh.ring.ul hh.ring.pl
  unfold DoesPost at hD
  unfold RDoPost at hE
  generalize (doR n u p m kd ix).2.2.2 = m2 at hD hE hT
  generalize (doR n u p m kd ix).2.2.1 = p2 at hD hE hT
  generalize (doR n u p m kd ix).2.1 = u2 at hD hE hT
  generalize (doR n u p m kd ix).1 = c at hD hE
  have HL := fun (W : World) (r : RRing W (w.heap.size + 2) (w.heap.size + 1) n u2 p2 m2 h) => rlists_any r
  have H9 := fun (W : World) (r : Ring W w.heap.size n u2 p2 m2 h) => used_own w.heap.size n u2 p2 m2 h W r
  have H10 := fun (W : World) (r : Ring W w.heap.size n u2 p2 m2 h) => pinned_own w.heap.size n u2 p2 m2 h W r
  rw [← mem_low u2 n hT.u0 64 hn64, ← mem_low p2 n hT.p0 64 hn64] at HL
  have hU64 := mem_len u2 64
  have hV64 := mem_len p2 64
  generalize mem u2 64 = U at HL H9 hU64
  generalize mem p2 64 = V at HL H10 hV64
  have HL := hide HL
  have H9 := hide H9
  have H10 := hide H10
  have HD2 := hide hD
  have HE2 := hide hE
  have HTD := Lib.hid hT
  clear hD hE hT hnext hh hit
  refine FrP.cases (motive := fun a => Code.wp Try.prog plBody Q a wr) hfr ?_
  clear hfr
  intros
  conv => arg 2; whnf
  go_wp2_with fail
  go_region_held3 (fun w' => w'.cell? (ad.add (k * 2)) = some (.int .i64 kd) ∧ w'.cell? ⟨(ad.add (k * 2)).block, (ad.add (k * 2)).off + 1, none⟩ = some (.int .i64 ix))
    (first | exact ⟨hk0, hk1⟩ | exact ⟨hx0, hx1⟩ | exact ⟨hy0, hy1⟩)
    (first
      | (go_at_call 8; refine (unhide HD2).mono ?_; rintro e w3 ⟨rfl, hr3, hg3⟩
         have hi3 := Item.grown HI.out HH.out.bel.size (b := w.heap.size) ⟨hg3.os, hg3.tape, hg3.output, hg3.size, hg3.block⟩ (Nat.le_refl _)
         have hx0 := hi3.c0
         have hx1 := hi3.c1
         have hrr3 := (HH.out.rr.drewN 1).grown hg3 (fun e => by injection e; omega) (fun e => by injection e; omega)
         have HRR3 := Lib.hid hrr3
         have HI3 := Lib.hid hi3
         have hsz3 : w.heap.size ≤ w3.heap.size := Nat.le_trans HH.out.bel.size hg3.size
         clear hrr3 hi3)
      | (go_at_call 15; refine ((unhide HE2) w3 HRR3.out).mono ?_; rintro e w4 ⟨rfl, hr4, hg4⟩
         have hi4 := Item.grown HI3.out hsz3 (b := w.heap.size + 1) hg4 (Nat.le_succ _)
         have hy0 := hi4.c0
         have hy1 := hi4.c1))
  have bel3 := (below_drewN HH.out.bel 1).trans (below_of_grown hg3 (Nat.le_refl _) HH.out.bel.size)
  have bel5 := bel3.trans (below_of_grown hg4 (Nat.le_succ _) bel3.size)
  have ring5 := hr3.grown hg4 (fun e => by injection e; omega)
  have rr5 := hr4
  clear hr3 hr4 hg3 hg4 hi4 hx0 hx1 hy0 hy1 bel3
  have HRG := Lib.hid ring5
  have HRR := Lib.hid rr5
  have HBL := hide bel5
  clear ring5 rr5 bel5
  go_wp2_with (go_at_call 17; refine ((unhide HL) w4 HRR.out).mono ?_; rintro e w6 ⟨A1, A2, c1, c2, rfl, q1, q2, hb6⟩)
  have ring6 := HRG.out.below hb6 HRG.out.lt
  have rr6 := HRR.out.below hb6 HRR.out.hd.lt HRR.out.pl.lt
  have bel6 := (unhide HBL).trans (hb6.mono (unhide HBL).size)
  have HRG6 := Lib.hid ring6
  have HRR6 := Lib.hid rr6
  have HQ1 := hide q1
  have HQ2 := hide q2
  have HB6 := hide bel6
  have hx6 := rr6.h_
  clear ring6 rr6 hb6 q1 q2 bel6
  go_region_held3 (fun w' => w'.cell? ⟨w.heap.size + 2, 1, none⟩ = some (.int .i64 (h : Int)))
    (first | exact hx6 | exact hx7 | exact hx9)
    (first
      | (go_at_call 9; refine ((unhide H9) _ (HRG6.out.drewN 1)).mono ?_; rintro e w7 ⟨A7, c7, rfl, hr7, ha7, hb7⟩
         have ring7 := (HRG6.out.drewN 1).below hb7 HRG6.out.lt
         have rr7 := (HRR6.out.drewN 1).below hb7 HRR6.out.hd.lt HRR6.out.pl.lt
         have q17 := (((unhide HQ1).drewN 1).below hb7).more hb7.size
         have q27 := (((unhide HQ2).drewN 1).below hb7).more hb7.size
         have bel7 := (below_drewN (unhide HB6) 1).trans (hb7.mono (unhide HB6).size)
         have hx7 := rr7.h_
         have HRG7 := Lib.hid ring7
         have HRR7 := Lib.hid rr7
         have HB7 := hide bel7
         clear ring7 rr7 bel7)
      | (go_at_call_of 18 (Value.slice A7 U.length c7); refine (same_ints A7 A1 c7 c1 U w7 hr7 q17 hU64).mono ?_; rintro e w8 ⟨rfl, nq7, rfl⟩)
      | (go_at_call 10; refine ((unhide H10) _ (HRG7.out.drewN nq7)).mono ?_; rintro e w9 ⟨A9, c9, rfl, hr9, ha9, hb9⟩
         have ring9 := (HRG7.out.drewN nq7).below hb9 HRG7.out.lt
         have rr9 := (HRR7.out.drewN nq7).below hb9 HRR7.out.hd.lt HRR7.out.pl.lt
         have q29 := ((q27.drewN nq7).below hb9).more hb9.size
         have bel9 := (below_drewN (unhide HB7) nq7).trans (hb9.mono (unhide HB7).size)
         have hx9 := rr9.h_
         have HRG9 := Lib.hid ring9
         have HRR9 := Lib.hid rr9
         have HB9 := hide bel9
         clear ring9 rr9 bel9)
      | (go_at_call_of 18 (Value.slice A9 V.length c9); refine (same_ints A9 A2 c9 c2 V w9 hr9 q29 hV64).mono ?_; rintro e w10 ⟨rfl, nq9, rfl⟩)
      | (go_at_call 19; refine (hand_ring w.heap.size n u2 p2 m2 h _ (HRG9.out.drewN nq9)).mono ?_; rintro e w11 ⟨rfl, rfl⟩))
  go_wp2_with fail
  exact (unhide HN) _ _ u2 p2 m2 h ⟨rfl, rfl, rfl, rfl, rfl, by go_num⟩ ⟨HRG9.out.drewN nq9, HRR9.out.drewN nq9, HTD.out, below_drewN (unhide HB9) nq9⟩

set_option maxRecDepth 1000000 in
set_option maxHeartbeats 4000000 in
theorem plays_free (hfr : FrP k w.heap.size len cap (some ad) a) (hh : Two w wr n u p m h) (hk : k < len) (hk80 : k < 80) (hlen : len ≤ 9223372036854775807) (hit : Item w wr ad k kd ix)
    (hor : ¬ 0 ≤ kd ∨ (0 ≤ kd ∧ ¬ kd < 5)) {kf : Nat} (hkf : kf < n) (hall : ∀ j, j < kf → u.testBit j = true) (hf : u.testBit kf = false)
    (hnext : ∀ a' w' u2 p2 m2 h2, FrP (k + 1) w.heap.size len cap (some ad) a' → Two w w' n u2 p2 m2 h2 → Q .normal a' w') : Code.wp Try.prog plBody Q a wr := by
  have HN := hide hnext
  have HH := Lib.hid hh
  have HI := Lib.hid hit
  have hadb := hit.adb
  have hk0 := hit.c0
  have hk1 := hit.c1
  have hn64 := hh.ring.n64
  have hC := next_free w.heap.size n u p m h kf wr hh.ring hkf hall hf
  have hR := rnext_free hh.rr hkf hall hf
  have hT := hh.tidy
  have HL := fun (W : World) (r : RRing W (w.heap.size + 2) (w.heap.size + 1) n u p m h) => rlists_any r
  have H9 := fun (W : World) (r : Ring W w.heap.size n u p m h) => used_own w.heap.size n u p m h W r
  have H10 := fun (W : World) (r : Ring W w.heap.size n u p m h) => pinned_own w.heap.size n u p m h W r
  rw [← mem_low u n hT.u0 64 hn64, ← mem_low p n hT.p0 64 hn64] at HL
  have hU64 := mem_len u 64
  have hV64 := mem_len p 64
  generalize mem u 64 = U at HL H9 hU64
  generalize mem p 64 = V at HL H10 hV64
  have HL := hide HL
  have H9 := hide H9
  have H10 := hide H10
  have H1 := hide hC
  have H2 := hide hR
  have HTD := Lib.hid hT
  clear hnext hit hall hf hC hR hh hT
  refine FrP.cases (motive := fun a => Code.wp Try.prog plBody Q a wr) hfr ?_
  clear hfr
  intros
  rcases hor with k1 | ⟨k1, k2⟩
  all_goals
    conv => arg 2; whnf
    go_wp2_with (first
      | (go_at_call 11; refine (unhide H1).mono ?_; rintro e w5 ⟨rfl, rfl⟩)
      | (go_at_call 16; refine (unhide H2).mono ?_; rintro e w5 ⟨rfl, rfl⟩
         have ring5 := HH.out.ring
         have rr5 := HH.out.rr
         have bel5 := HH.out.bel
         have HRR0 := Lib.hid rr5)
      | (go_at_call 17; refine ((unhide HL) wr HRR0.out).mono ?_; rintro e w6 ⟨A1, A2, c1, c2, rfl, q1, q2, hb6⟩))
    have HRG := Lib.hid ring5
    have HRR := Lib.hid rr5
    have HBL := hide bel5
    clear ring5 rr5 bel5
    have ring6 := HRG.out.below hb6 HRG.out.lt
    have rr6 := HRR.out.below hb6 HRR.out.hd.lt HRR.out.pl.lt
    have bel6 := (unhide HBL).trans (hb6.mono (unhide HBL).size)
    have HRG6 := Lib.hid ring6
    have HRR6 := Lib.hid rr6
    have HQ1 := hide q1
    have HQ2 := hide q2
    have HB6 := hide bel6
    have hx6 := rr6.h_
    clear ring6 rr6 hb6 q1 q2 bel6
    go_region_held3 (fun w' => w'.cell? ⟨w.heap.size + 2, 1, none⟩ = some (.int .i64 (h : Int)))
      (first | exact hx6 | exact hx7 | exact hx9)
      (first
        | (go_at_call 9; refine ((unhide H9) _ (HRG6.out.drewN 1)).mono ?_; rintro e w7 ⟨A7, c7, rfl, hr7, ha7, hb7⟩
           have ring7 := (HRG6.out.drewN 1).below hb7 HRG6.out.lt
           have rr7 := (HRR6.out.drewN 1).below hb7 HRR6.out.hd.lt HRR6.out.pl.lt
           have q17 := (((unhide HQ1).drewN 1).below hb7).more hb7.size
           have q27 := (((unhide HQ2).drewN 1).below hb7).more hb7.size
           have bel7 := (below_drewN (unhide HB6) 1).trans (hb7.mono (unhide HB6).size)
           have hx7 := rr7.h_
           have HRG7 := Lib.hid ring7
           have HRR7 := Lib.hid rr7
           have HB7 := hide bel7
           clear ring7 rr7 bel7)
        | (go_at_call_of 18 (Value.slice A7 U.length c7); refine (same_ints A7 A1 c7 c1 U w7 hr7 q17 hU64).mono ?_; rintro e w8 ⟨rfl, nq7, rfl⟩)
        | (go_at_call 10; refine ((unhide H10) _ (HRG7.out.drewN nq7)).mono ?_; rintro e w9 ⟨A9, c9, rfl, hr9, ha9, hb9⟩
           have ring9 := (HRG7.out.drewN nq7).below hb9 HRG7.out.lt
           have rr9 := (HRR7.out.drewN nq7).below hb9 HRR7.out.hd.lt HRR7.out.pl.lt
           have q29 := ((q27.drewN nq7).below hb9).more hb9.size
           have bel9 := (below_drewN (unhide HB7) nq7).trans (hb9.mono (unhide HB7).size)
           have hx9 := rr9.h_
           have HRG9 := Lib.hid ring9
           have HRR9 := Lib.hid rr9
           have HB9 := hide bel9
           clear ring9 rr9 bel9)
        | (go_at_call_of 18 (Value.slice A9 V.length c9); refine (same_ints A9 A2 c9 c2 V w9 hr9 q29 hV64).mono ?_; rintro e w10 ⟨rfl, nq9, rfl⟩)
        | (go_at_call 19; refine (hand_ring w.heap.size n u p m h _ (HRG9.out.drewN nq9)).mono ?_; rintro e w11 ⟨rfl, rfl⟩))
    go_wp2_with fail
    exact (unhide HN) _ _ u p m h ⟨rfl, rfl, rfl, rfl, rfl, by go_num⟩ ⟨HRG9.out.drewN nq9, HRR9.out.drewN nq9, HTD.out, below_drewN (unhide HB9) nq9⟩

set_option maxRecDepth 1000000 in
set_option maxHeartbeats 4000000 in
theorem plays_full (hfr : FrP k w.heap.size len cap (some ad) a) (hh : Two w wr n u p m h) (hk : k < len) (hk80 : k < 80) (hlen : len ≤ 9223372036854775807) (hit : Item w wr ad k kd ix)
    (hor : ¬ 0 ≤ kd ∨ (0 ≤ kd ∧ ¬ kd < 5)) (hall : ∀ j, j < n → u.testBit j = true) (hpu : p = u)
    (hnext : ∀ a' w' u2 p2 m2 h2, FrP (k + 1) w.heap.size len cap (some ad) a' → Two w w' n u2 p2 m2 h2 → Q .normal a' w') : Code.wp Try.prog plBody Q a wr := by
  have HN := hide hnext
  have HH := Lib.hid hh
  have HI := Lib.hid hit
  have hadb := hit.adb
  have hk0 := hit.c0
  have hk1 := hit.c1
  have hn64 := hh.ring.n64
  have hC := next_full w.heap.size n u p m h wr hh.ring hall hpu
  have hR := fun (W : World) (r : RRing W (w.heap.size + 2) (w.heap.size + 1) n u p m h) => rnext_full r hall (by rw [hpu]; exact hall)
  have hT := hh.tidy
  have HL := fun (W : World) (r : RRing W (w.heap.size + 2) (w.heap.size + 1) n u p m h) => rlists_any r
  have H9 := fun (W : World) (r : Ring W w.heap.size n u p m h) => used_own w.heap.size n u p m h W r
  have H10 := fun (W : World) (r : Ring W w.heap.size n u p m h) => pinned_own w.heap.size n u p m h W r
  rw [← mem_low u n hT.u0 64 hn64, ← mem_low p n hT.p0 64 hn64] at HL
  have hU64 := mem_len u 64
  have hV64 := mem_len p 64
  generalize mem u 64 = U at HL H9 hU64
  generalize mem p 64 = V at HL H10 hV64
  have HL := hide HL
  have H9 := hide H9
  have H10 := hide H10
  have H1 := hide hC
  have H2 := hide hR
  have HTD := Lib.hid hT
  clear hnext hit hall hpu hC hR hh hT
  refine FrP.cases (motive := fun a => Code.wp Try.prog plBody Q a wr) hfr ?_
  clear hfr
  intros
  rcases hor with k1 | ⟨k1, k2⟩
  all_goals
    conv => arg 2; whnf
    go_wp2_with (first
      | (go_at_call 11; refine (unhide H1).mono ?_; rintro e w5 ⟨rfl, hg5, hring5⟩
         have HG5 := Lib.hid hg5
         have ring5 := hring5
         have HRR0 := Lib.hid (HH.out.rr.grown hg5 (fun e => by injection e; omega) (fun e => by injection e; omega)))
      | (go_at_call 16; refine ((unhide H2) w5 HRR0.out).mono ?_; rintro e w5' ⟨rfl, rfl⟩
         have rr5 := HRR0.out
         have bel5 := HH.out.bel.trans (below_of_grown HG5.out (Nat.le_refl _) HH.out.bel.size))
      | (go_at_call 17; refine ((unhide HL) w5 HRR0.out).mono ?_; rintro e w6 ⟨A1, A2, c1, c2, rfl, q1, q2, hb6⟩))
    have HRG := Lib.hid ring5
    have HRR := Lib.hid rr5
    have HBL := hide bel5
    clear ring5 rr5 bel5
    have ring6 := HRG.out.below hb6 HRG.out.lt
    have rr6 := HRR.out.below hb6 HRR.out.hd.lt HRR.out.pl.lt
    have bel6 := (unhide HBL).trans (hb6.mono (unhide HBL).size)
    have HRG6 := Lib.hid ring6
    have HRR6 := Lib.hid rr6
    have HQ1 := hide q1
    have HQ2 := hide q2
    have HB6 := hide bel6
    have hx6 := rr6.h_
    clear ring6 rr6 hb6 q1 q2 bel6
    go_region_held3 (fun w' => w'.cell? ⟨w.heap.size + 2, 1, none⟩ = some (.int .i64 (h : Int)))
      (first | exact hx6 | exact hx7 | exact hx9)
      (first
        | (go_at_call 9; refine ((unhide H9) _ (HRG6.out.drewN 1)).mono ?_; rintro e w7 ⟨A7, c7, rfl, hr7, ha7, hb7⟩
           have ring7 := (HRG6.out.drewN 1).below hb7 HRG6.out.lt
           have rr7 := (HRR6.out.drewN 1).below hb7 HRR6.out.hd.lt HRR6.out.pl.lt
           have q17 := (((unhide HQ1).drewN 1).below hb7).more hb7.size
           have q27 := (((unhide HQ2).drewN 1).below hb7).more hb7.size
           have bel7 := (below_drewN (unhide HB6) 1).trans (hb7.mono (unhide HB6).size)
           have hx7 := rr7.h_
           have HRG7 := Lib.hid ring7
           have HRR7 := Lib.hid rr7
           have HB7 := hide bel7
           clear ring7 rr7 bel7)
        | (go_at_call_of 18 (Value.slice A7 U.length c7); refine (same_ints A7 A1 c7 c1 U w7 hr7 q17 hU64).mono ?_; rintro e w8 ⟨rfl, nq7, rfl⟩)
        | (go_at_call 10; refine ((unhide H10) _ (HRG7.out.drewN nq7)).mono ?_; rintro e w9 ⟨A9, c9, rfl, hr9, ha9, hb9⟩
           have ring9 := (HRG7.out.drewN nq7).below hb9 HRG7.out.lt
           have rr9 := (HRR7.out.drewN nq7).below hb9 HRR7.out.hd.lt HRR7.out.pl.lt
           have q29 := ((q27.drewN nq7).below hb9).more hb9.size
           have bel9 := (below_drewN (unhide HB7) nq7).trans (hb9.mono (unhide HB7).size)
           have hx9 := rr9.h_
           have HRG9 := Lib.hid ring9
           have HRR9 := Lib.hid rr9
           have HB9 := hide bel9
           clear ring9 rr9 bel9)
        | (go_at_call_of 18 (Value.slice A9 V.length c9); refine (same_ints A9 A2 c9 c2 V w9 hr9 q29 hV64).mono ?_; rintro e w10 ⟨rfl, nq9, rfl⟩)
        | (go_at_call 19; refine (hand_ring w.heap.size n u p m h _ (HRG9.out.drewN nq9)).mono ?_; rintro e w11 ⟨rfl, rfl⟩))
    go_wp2_with fail
    exact (unhide HN) _ _ u p m h ⟨rfl, rfl, rfl, rfl, rfl, by go_num⟩ ⟨HRG9.out.drewN nq9, HRR9.out.drewN nq9, HTD.out, below_drewN (unhide HB9) nq9⟩

set_option maxRecDepth 1000000 in
set_option maxHeartbeats 4000000 in
theorem plays_turn (hfr : FrP k w.heap.size len cap (some ad) a) (hh : Two w wr n u p m h) (hk : k < len) (hk80 : k < 80) (hlen : len ≤ 9223372036854775807) (hit : Item w wr ad k kd ix)
    (hor : ¬ 0 ≤ kd ∨ (0 ≤ kd ∧ ¬ kd < 5)) (hall : ∀ j, j < n → u.testBit j = true) (hpu : p ≠ u)
    (hnext : ∀ a' w' u2 p2 m2 h2, FrP (k + 1) w.heap.size len cap (some ad) a' → Two w w' n u2 p2 m2 h2 → Q .normal a' w') : Code.wp Try.prog plBody Q a wr := by
  have HN := hide hnext
  have HH := Lib.hid hh
  have HI := Lib.hid hit
  have hadb := hit.adb
  have hk0 := hit.c0
  have hk1 := hit.c1
  have hn64 := hh.ring.n64
  obtain ⟨i, m2, h2, hs, hin, hpi, hmi⟩ := stops hh.tidy hpu hn64 hh.ring.ml hh.ring.hn
  have hC := next_turn w.heap.size n u p m h (2 * n) i m2 h2 wr hh.ring hall hpu hs
  have hR := fun (W : World) (r : RRing W (w.heap.size + 2) (w.heap.size + 1) n u p m h) => rnext_turn (B := w.heap.size + 1) r (by omega) (Nat.le_refl _) hall hin hpi hs
  have hT : Tidy n u p m2 := ⟨hh.tidy.u0, hh.tidy.sub⟩
  have HL := fun (W : World) (r : RRing W (w.heap.size + 2) (w.heap.size + 1) n u p m2 h2) => rlists_any r
  have H9 := fun (W : World) (r : Ring W w.heap.size n u p m2 h2) => used_own w.heap.size n u p m2 h2 W r
  have H10 := fun (W : World) (r : Ring W w.heap.size n u p m2 h2) => pinned_own w.heap.size n u p m2 h2 W r
  rw [← mem_low u n hT.u0 64 hn64, ← mem_low p n hT.p0 64 hn64] at HL
  have hU64 := mem_len u 64
  have hV64 := mem_len p 64
  generalize mem u 64 = U at HL H9 hU64
  generalize mem p 64 = V at HL H10 hV64
  have HL := hide HL
  have H9 := hide H9
  have H10 := hide H10
  have H1 := hide hC
  have H2 := hide hR
  have HTD := Lib.hid hT
  clear hnext hit hall hpu hC hR hh hT hmi hpi hs
  refine FrP.cases (motive := fun a => Code.wp Try.prog plBody Q a wr) hfr ?_
  clear hfr
  intros
  rcases hor with k1 | ⟨k1, k2⟩
  all_goals
    conv => arg 2; whnf
    go_wp2_with (first
      | (go_at_call 11; refine (unhide H1).mono ?_; rintro e w4 ⟨rfl, hg4, hring4⟩
         have HG4 := Lib.hid hg4
         have HRG4 := Lib.hid hring4
         have HRR4 := Lib.hid (HH.out.rr.grown hg4 (fun e => by injection e; omega) (fun e => by injection e; omega))
         clear hg4 hring4)
      | (go_at_call 16; refine ((unhide H2) w4 HRR4.out).mono ?_; rintro e w5 ⟨rfl, rr5, hb5⟩
         have ring5 := HRG4.out.below hb5 (Nat.lt_succ_self _)
         have bel4 := HH.out.bel.trans (below_of_grown HG4.out (Nat.le_refl _) HH.out.bel.size)
         have bel5 := bel4.trans (hb5.mono (Nat.le_succ _))
         have HRR0 := Lib.hid rr5
         clear bel4 hb5)
      | (go_at_call 17; refine ((unhide HL) w5 HRR0.out).mono ?_; rintro e w6 ⟨A1, A2, c1, c2, rfl, q1, q2, hb6⟩))
    have HRG := Lib.hid ring5
    have HRR := Lib.hid rr5
    have HBL := hide bel5
    clear ring5 rr5 bel5
    have ring6 := HRG.out.below hb6 HRG.out.lt
    have rr6 := HRR.out.below hb6 HRR.out.hd.lt HRR.out.pl.lt
    have bel6 := (unhide HBL).trans (hb6.mono (unhide HBL).size)
    have HRG6 := Lib.hid ring6
    have HRR6 := Lib.hid rr6
    have HQ1 := hide q1
    have HQ2 := hide q2
    have HB6 := hide bel6
    have hx6 := rr6.h_
    clear ring6 rr6 hb6 q1 q2 bel6
    go_region_held3 (fun w' => w'.cell? ⟨w.heap.size + 2, 1, none⟩ = some (.int .i64 (h2 : Int)))
      (first | exact hx6 | exact hx7 | exact hx9)
      (first
        | (go_at_call 9; refine ((unhide H9) _ (HRG6.out.drewN 1)).mono ?_; rintro e w7 ⟨A7, c7, rfl, hr7, ha7, hb7⟩
           have ring7 := (HRG6.out.drewN 1).below hb7 HRG6.out.lt
           have rr7 := (HRR6.out.drewN 1).below hb7 HRR6.out.hd.lt HRR6.out.pl.lt
           have q17 := (((unhide HQ1).drewN 1).below hb7).more hb7.size
           have q27 := (((unhide HQ2).drewN 1).below hb7).more hb7.size
           have bel7 := (below_drewN (unhide HB6) 1).trans (hb7.mono (unhide HB6).size)
           have hx7 := rr7.h_
           have HRG7 := Lib.hid ring7
           have HRR7 := Lib.hid rr7
           have HB7 := hide bel7
           clear ring7 rr7 bel7)
        | (go_at_call_of 18 (Value.slice A7 U.length c7); refine (same_ints A7 A1 c7 c1 U w7 hr7 q17 hU64).mono ?_; rintro e w8 ⟨rfl, nq7, rfl⟩)
        | (go_at_call 10; refine ((unhide H10) _ (HRG7.out.drewN nq7)).mono ?_; rintro e w9 ⟨A9, c9, rfl, hr9, ha9, hb9⟩
           have ring9 := (HRG7.out.drewN nq7).below hb9 HRG7.out.lt
           have rr9 := (HRR7.out.drewN nq7).below hb9 HRR7.out.hd.lt HRR7.out.pl.lt
           have q29 := ((q27.drewN nq7).below hb9).more hb9.size
           have bel9 := (below_drewN (unhide HB7) nq7).trans (hb9.mono (unhide HB7).size)
           have hx9 := rr9.h_
           have HRG9 := Lib.hid ring9
           have HRR9 := Lib.hid rr9
           have HB9 := hide bel9
           clear ring9 rr9 bel9)
        | (go_at_call_of 18 (Value.slice A9 V.length c9); refine (same_ints A9 A2 c9 c2 V w9 hr9 q29 hV64).mono ?_; rintro e w10 ⟨rfl, nq9, rfl⟩)
        | (go_at_call 19; refine (hand_ring w.heap.size n u p m2 h2 _ (HRG9.out.drewN nq9)).mono ?_; rintro e w11 ⟨rfl, rfl⟩))
    go_wp2_with fail
    exact (unhide HN) _ _ u p m2 h2 ⟨rfl, rfl, rfl, rfl, rfl, by go_num⟩ ⟨HRG9.out.drewN nq9, HRR9.out.drewN nq9, HTD.out, below_drewN (unhide HB9) nq9⟩

end

end Go.Proofs.Ytoiabaienhchjaa
