/- The round of ClockSpares in which a call that names a place is refused. -/
import Derived.Test.YtoiabaienhchjaaL
namespace Go.Proofs.Ytoiabaienhchjaa
open Go.RowKit
set_option linter.unusedVariables false

/-- a step that is taken first, its slot written out -/
theorem takeH {P : Program} {ops : Array Oper} {md : Region.Mode} {Q : Exit → Act → World → Prop} {S : World → Prop} {fuel : Nat} {listed : Array Bool} {a : Act} {w : World} (i : Nat) (d : Option Tmp) {oi : Oper} {v : Value} (hi : ops[i]? = some oi) (hd : oi.dst = d)
    (hs : Region.noSelect ops = true) (hf : Region.free md ops listed i = true) (hr : (Region.ready md ops listed).contains i = true)
    (hQ : ∀ c a w, Q (.panic c) (a.put oi.dst v) w → Q (.panic c) a w) (hy : YieldsIf P ops S oi v a) (hS : S w)
    (h : wpAnyH P md ops Q S fuel (listed.setIfInBounds i true) (a.put d v) w) : wpAnyH P md ops Q S (fuel + 1) listed a w := by
  subst hd
  exact wpAnyH_take hi hs hf hr hQ hy hS h

section
variable {Q : Exit → Act → World → Prop} {a : Act} {w wr : World} {n k len cap u p m : Nat} {ad : Addr} {kd ix : Int}

set_option maxRecDepth 1000000 in
set_option maxHeartbeats 4000000 in
theorem round_not (hfr : Fr n k w.heap.size len cap (some ad) a) (hh : Held w wr n u p m) (hn64 : n ≤ 64) (hk : k < len) (hk60 : k < 60) (hlen : len ≤ 9223372036854775807) (hit : Item w wr ad k kd ix)
    (q0 : 0 ≤ kd) (q5 : kd < 5) (hc : (doR n u p m kd ix).1 ≠ 0)
    (hnext : ∀ a' w' u2 p2 m2, Fr n (k + 1) w.heap.size len cap (some ad) a' → Held w w' n u2 p2 m2 → Q .normal a' w') : Code.wp Try.prog spBody Q a wr := by
  have HN := hide hnext
  have HH := Lib.hid hh
  have HI := Lib.hid hit
  have hadb := hit.adb
  have hk0 := hit.c0
  have hk1 := hit.c1
  have q5' : decide (kd < 5) = true := decide_eq_true q5
  have hD := does_any w.heap.size n u p m 0 kd ix (wr.drewN 1) (hh.ring.drewN 1)
  have hM := doR_marks (n := n) (u := u) (p := p) (m := m) (ix := ix) q0
  have hT := doR_tidy kd ix hh.tidy hn64 hh.ring.ul hh.ring.pl
  unfold DoesPost at hD
  generalize (doR n u p m kd ix).2.2.2 = m2 at hD hM hT
  generalize (doR n u p m kd ix).2.2.1 = p2 at hD hT
  generalize (doR n u p m kd ix).2.1 = u2 at hD hT
  generalize (doR n u p m kd ix).1 = c at hD hM hc
  have HD2 := hide hD
  have HT := Lib.hid hT
  have HM2 := Lib.hid (hM.2 (fun h => hc h.1))
  have hcb : (c == 0) = false := beq_eq_false_iff_ne.2 hc
  clear hM hD hT hnext hh hit hc
  refine Fr.cases (motive := fun a => Code.wp Try.prog spBody Q a wr) hfr ?_
  clear hfr
  intros
  conv => arg 2; whnf
  go_wp2_with fail
  refine wp_region_noPanic ?_
  refine wp_region_held_drew (S := fun w' => w'.cell? (ad.add (k * 2)) = some (.int .i64 kd) ∧ w'.cell? ⟨(ad.add (k * 2)).block, (ad.add (k * 2)).off + 1, none⟩ = some (.int .i64 ix)) (by kernel_rfl) ⟨hk0, hk1⟩ (fun hHeld => ?_)
  refine takeH 0 (some 54) (v := ?_) rfl rfl (by kernel_rfl) (by kernel_rfl) (by kernel_rfl) (fun _ _ _ h => h) (Or.inl ⟨by rfl, (by intro w1 hw1; obtain ⟨f0, f1⟩ := hw1; go_simp; with_reducible rfl)⟩) hHeld ?_
  simp only [Act.put, List.setIfInBounds_toArray, List.set_cons_zero, List.set_cons_succ]
  refine takeH 1 (some 55) (v := ?_) rfl rfl (by kernel_rfl) (by kernel_rfl) (by kernel_rfl) (fun _ _ _ h => h) (Or.inl ⟨by rfl, (by intro w1 hw1; obtain ⟨f0, f1⟩ := hw1; go_simp; with_reducible rfl)⟩) hHeld ?_
  simp only [Act.put, List.setIfInBounds_toArray, List.set_cons_zero, List.set_cons_succ]
  refine takeH 2 (some 56) (v := ?_) rfl rfl (by kernel_rfl) (by kernel_rfl) (by kernel_rfl) (fun _ _ _ h => h) (Or.inl ⟨by rfl, (by intro w1 hw1; obtain ⟨f0, f1⟩ := hw1; go_simp; with_reducible rfl)⟩) hHeld ?_
  simp only [Act.put, List.setIfInBounds_toArray, List.set_cons_zero, List.set_cons_succ]
  refine takeH 3 (some 57) (v := ?_) rfl rfl (by kernel_rfl) (by kernel_rfl) (by kernel_rfl) (fun _ _ _ h => h) (Or.inl ⟨by rfl, (by intro w1 hw1; obtain ⟨f0, f1⟩ := hw1; go_simp; with_reducible rfl)⟩) hHeld ?_
  simp only [Act.put, List.setIfInBounds_toArray, List.set_cons_zero, List.set_cons_succ]
  refine takeH 4 (some 58) (v := ?_) rfl rfl (by kernel_rfl) (by kernel_rfl) (by kernel_rfl) (fun _ _ _ h => h) (Or.inl ⟨by rfl, (by intro w1 hw1; obtain ⟨f0, f1⟩ := hw1; go_simp; with_reducible rfl)⟩) hHeld ?_
  simp only [Act.put, List.setIfInBounds_toArray, List.set_cons_zero, List.set_cons_succ]
  refine takeH 5 (some 59) (v := ?_) rfl rfl (by kernel_rfl) (by kernel_rfl) (by kernel_rfl) (fun _ _ _ h => h) (Or.inl ⟨by rfl, (by intro w1 hw1; obtain ⟨f0, f1⟩ := hw1; go_simp; with_reducible rfl)⟩) hHeld ?_
  simp only [Act.put, List.setIfInBounds_toArray, List.set_cons_zero, List.set_cons_succ]
  refine takeH 6 (some 60) (v := ?_) rfl rfl (by kernel_rfl) (by kernel_rfl) (by kernel_rfl) (fun _ _ _ h => h) (Or.inl ⟨by rfl, (by intro w1 hw1; obtain ⟨f0, f1⟩ := hw1; go_simp; with_reducible rfl)⟩) hHeld ?_
  simp only [Act.put, List.setIfInBounds_toArray, List.set_cons_zero, List.set_cons_succ]
  refine takeH 7 (some 61) (v := ?_) rfl rfl (by kernel_rfl) (by kernel_rfl) (by kernel_rfl) (fun _ _ _ h => h) (Or.inl ⟨by rfl, (by intro w1 hw1; obtain ⟨f0, f1⟩ := hw1; go_simp; with_reducible rfl)⟩) hHeld ?_
  simp only [Act.put, List.setIfInBounds_toArray, List.set_cons_zero, List.set_cons_succ]
  refine takeH 8 (some 62) (v := ?_) rfl rfl (by kernel_rfl) (by kernel_rfl) (by kernel_rfl) (fun _ _ _ h => h) (Or.inl ⟨by rfl, (by intro w1 hw1; obtain ⟨f0, f1⟩ := hw1; go_simp; with_reducible rfl)⟩) hHeld ?_
  simp only [Act.put, List.setIfInBounds_toArray, List.set_cons_zero, List.set_cons_succ]
  refine takeH 9 (some 63) (v := ?_) rfl rfl (by kernel_rfl) (by kernel_rfl) (by kernel_rfl) (fun _ _ _ h => h) (Or.inl ⟨by rfl, (by intro w1 hw1; obtain ⟨f0, f1⟩ := hw1; go_simp; with_reducible rfl)⟩) hHeld ?_
  simp only [Act.put, List.setIfInBounds_toArray, List.set_cons_zero, List.set_cons_succ]
  refine takeH 10 (some 64) (v := ?_) rfl rfl (by kernel_rfl) (by kernel_rfl) (by kernel_rfl) (fun _ _ _ h => h) (Or.inl ⟨by rfl, (by intro w1 hw1; obtain ⟨f0, f1⟩ := hw1; go_simp; with_reducible rfl)⟩) hHeld ?_
  simp only [Act.put, List.setIfInBounds_toArray, List.set_cons_zero, List.set_cons_succ]
  refine wpAnyH_ready (rs := [11]) (by kernel_rfl) (by simp) ?_
  refine AllReadyH.cons rfl (fun K hK => ?_) AllReadyH.nil
  go_simp
  (go_at_call 8; refine (unhide HD2).mono ?_; rintro e w3 ⟨rfl, hr3, hg3⟩)
  have hi3 := Item.grown HI.out HH.out.bel.size (b := w.heap.size) ⟨hg3.os, hg3.tape, hg3.output, hg3.size, hg3.block⟩ (Nat.le_refl _)
  refine hK.out _ _ ⟨hi3.c0, hi3.c1⟩ (fun hHeld2 => ?_)
  clear hK K
  refine takeH 12 (some 66) (v := ?_) rfl rfl (by kernel_rfl) (by kernel_rfl) (by kernel_rfl) (fun _ _ _ h => h) (Or.inl ⟨by rfl, (by intro w1 hw1; obtain ⟨f0, f1⟩ := hw1; go_simp; with_reducible rfl)⟩) hHeld2 ?_
  simp only [Act.put, List.setIfInBounds_toArray, List.set_cons_zero, List.set_cons_succ]
  refine takeH 13 (some 67) (v := ?_) rfl rfl (by kernel_rfl) (by kernel_rfl) (by kernel_rfl) (fun _ _ _ h => h) (Or.inl ⟨by rfl, (by intro w1 hw1; obtain ⟨f0, f1⟩ := hw1; go_simp; with_reducible rfl)⟩) hHeld2 ?_
  simp only [Act.put, List.setIfInBounds_toArray, List.set_cons_zero, List.set_cons_succ]
  refine takeH 14 (some 68) (v := undef) rfl rfl (by kernel_rfl) (by kernel_rfl) (by kernel_rfl) (fun _ _ _ h => h) (Or.inr ⟨by kernel_rfl, rfl⟩) hHeld2 ?_
  simp only [Act.put, List.setIfInBounds_toArray, List.set_cons_zero, List.set_cons_succ]
  refine takeH 15 (some 69) (v := undef) rfl rfl (by kernel_rfl) (by kernel_rfl) (by kernel_rfl) (fun _ _ _ h => h) (Or.inr ⟨by kernel_rfl, rfl⟩) hHeld2 ?_
  simp only [Act.put, List.setIfInBounds_toArray, List.set_cons_zero, List.set_cons_succ]
  refine takeH 16 (some 70) (v := undef) rfl rfl (by kernel_rfl) (by kernel_rfl) (by kernel_rfl) (fun _ _ _ h => h) (Or.inr ⟨by kernel_rfl, rfl⟩) hHeld2 ?_
  simp only [Act.put, List.setIfInBounds_toArray, List.set_cons_zero, List.set_cons_succ]
  refine takeH 17 (some 71) (v := undef) rfl rfl (by kernel_rfl) (by kernel_rfl) (by kernel_rfl) (fun _ _ _ h => h) (Or.inr ⟨by kernel_rfl, rfl⟩) hHeld2 ?_
  simp only [Act.put, List.setIfInBounds_toArray, List.set_cons_zero, List.set_cons_succ]
  refine takeH 18 (some 72) (v := undef) rfl rfl (by kernel_rfl) (by kernel_rfl) (by kernel_rfl) (fun _ _ _ h => h) (Or.inr ⟨by kernel_rfl, rfl⟩) hHeld2 ?_
  simp only [Act.put, List.setIfInBounds_toArray, List.set_cons_zero, List.set_cons_succ]
  refine takeH 19 (some 73) (v := undef) rfl rfl (by kernel_rfl) (by kernel_rfl) (by kernel_rfl) (fun _ _ _ h => h) (Or.inr ⟨by kernel_rfl, rfl⟩) hHeld2 ?_
  simp only [Act.put, List.setIfInBounds_toArray, List.set_cons_zero, List.set_cons_succ]
  refine takeH 20 (some 74) (v := ?_) rfl rfl (by kernel_rfl) (by kernel_rfl) (by kernel_rfl) (fun _ _ _ h => h) (Or.inl ⟨by rfl, (by intro w1 hw1; obtain ⟨f0, f1⟩ := hw1; go_simp; with_reducible rfl)⟩) hHeld2 ?_
  simp only [Act.put, List.setIfInBounds_toArray, List.set_cons_zero, List.set_cons_succ]
  refine wpAnyH_done (by kernel_rfl) ?_ _
  refine NoPanic.normal ?_
  have hmk : Blk w3 (w.heap.size + 1) 4 (mkb n m2) := by rw [HM2.out]; exact (HH.out.marks.drewN 1).grown hg3 (fun e => by injection e; omega)
  have HF := Lib.hid (Held.mk hr3 HT.out hmk ((below_drewN HH.out.bel 1).trans (below_of_grown hg3 (Nat.le_refl _) HH.out.bel.size)))
  clear hmk hr3 hg3 hi3
  go_wp2_with fail
  exact (unhide HN) _ _ u2 p2 m2 ⟨rfl, rfl, rfl, rfl, rfl, rfl, by go_num⟩ HF.out
end

end Go.Proofs.Ytoiabaienhchjaa
