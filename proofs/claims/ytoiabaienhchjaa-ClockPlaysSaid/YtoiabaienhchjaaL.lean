/- The rounds of ClockSpares in which a call names a place, one theorem a case. -/
import Derived.Test.YtoiabaienhchjaaJ
namespace Go.Proofs.Ytoiabaienhchjaa
open Go.RowKit
set_option linter.unusedVariables false

/-- what stands at the place k of the law's slice -/
structure Item (w wr : World) (ad : Addr) (k : Nat) (kd ix : Int) : Prop where
  adb : ad.block < w.heap.size
  c0 : wr.cell? (ad.add (k * 2)) = some (.int .i64 kd)
  c1 : wr.cell? ⟨(ad.add (k * 2)).block, (ad.add (k * 2)).off + 1, none⟩ = some (.int .i64 ix)
theorem Item.grown {w wr w' : World} {ad : Addr} {k : Nat} {kd ix : Int} (h : Item w wr ad k kd ix) (hz : w.heap.size ≤ wr.heap.size) {b : Nat} (hg : wr.grownBy w' (some b)) (hb : w.heap.size ≤ b) : Item w w' ad k kd ix :=
  ⟨h.adb,
   (World.cell?_of_block (a := ad.add (k * 2)) (hg.block (ad.add (k * 2)).block (by rw [block_of_add]; exact Nat.lt_of_lt_of_le h.adb hz) (by rw [block_of_add]; intro e; injection e; have := h.adb; omega))).trans h.c0,
   (World.cell?_of_block (a := ⟨(ad.add (k * 2)).block, (ad.add (k * 2)).off + 1, none⟩) (hg.block (ad.add (k * 2)).block (by rw [block_of_add]; exact Nat.lt_of_lt_of_le h.adb hz) (by rw [block_of_add]; intro e; injection e; have := h.adb; omega))).trans h.c1⟩
theorem Item.set_ {w wr : World} {ad : Addr} {k : Nat} {kd ix : Int} (h : Item w wr ad k kd ix) (W : World) (g q : Nat) (hg : w.heap.size ≤ g) (v : Value) (e0 : W.cell? (ad.add (k * 2)) = some (.int .i64 kd)) (e1 : W.cell? ⟨(ad.add (k * 2)).block, (ad.add (k * 2)).off + 1, none⟩ = some (.int .i64 ix)) :
    (W.setCell ⟨g, q, none⟩ v).cell? (ad.add (k * 2)) = some (.int .i64 kd) ∧ (W.setCell ⟨g, q, none⟩ v).cell? ⟨(ad.add (k * 2)).block, (ad.add (k * 2)).off + 1, none⟩ = some (.int .i64 ix) :=
  ⟨(World.cell?_setCell_far W _ _ v (by rw [block_of_add]; have := h.adb; show g ≠ _; omega)).trans e0,
   (World.cell?_setCell_far W _ _ v (by have := h.adb; show g ≠ (ad.add (k * 2)).block; rw [block_of_add]; omega)).trans e1⟩

section
variable {Q : Exit → Act → World → Prop} {a : Act} {w wr : World} {n k len cap u p m : Nat} {ad : Addr} {kd ix : Int}

set_option maxRecDepth 1000000 in
set_option maxHeartbeats 4000000 in
theorem round_store (hfr : Fr n k w.heap.size len cap (some ad) a) (hh : Held w wr n u p m) (hn64 : n ≤ 64) (hk : k < len) (hk60 : k < 60) (hlen : len ≤ 9223372036854775807) (hit : Item w wr ad k kd ix)
    (q0 : 0 ≤ kd) (q5 : kd < 5) (hc : (doR n u p m kd ix).1 = 0 ∧ kd < 3)
    (hnext : ∀ a' w' u2 p2 m2, Fr n (k + 1) w.heap.size len cap (some ad) a' → Held w w' n u2 p2 m2 → Q .normal a' w') : Code.wp Try.prog spBody Q a wr := by
  have HN := hide hnext
  have HH := Lib.hid hh
  have HI := Lib.hid hit
  have hadb := hit.adb
  have hk0 := hit.c0
  have hk1 := hit.c1
  have q5' : decide (kd < 5) = true := decide_eq_true q5
  have hD := does_any w.heap.size n u p m 0 kd ix (wr.drewN 1) (hh.ring.drewN 1)
  have hM := doR_marks (n := n) (u := u) (p := p) (m := m) (ix := ix) q0
  have hT := doR_tidy kd ix hh.tidy hn64 hh.ring.ul hh.ring.pl
  unfold DoesPost at hD
  generalize (doR n u p m kd ix).2.2.2 = m2 at hD hM hT
  generalize (doR n u p m kd ix).2.2.1 = p2 at hD hT
  generalize (doR n u p m kd ix).2.1 = u2 at hD hT
  generalize (doR n u p m kd ix).1 = c at hD hM hc
  have HD2 := hide hD
  have HT := Lib.hid hT
  obtain ⟨i0', i1', hm2⟩ := hM.1 hc
  obtain ⟨rfl, k3⟩ := hc
  obtain ⟨q, rfl⟩ := Int.eq_ofNat_of_zero_le i0'
  have hqn : q < n := by omega
  have HM2 : Hid (m2 = put m q (kd != 1)) := hm2
  have ew : IntKind.i64.wrap ((n : Int) - 1) = (n : Int) - 1 := IntWalk.i64_in _ (by omega)
  have HW : Hid ((if (q : Int) < 0 then (0 : Int) else if (n : Int) - 1 < (q : Int) then (n : Int) - 1 else (q : Int)) = (q : Int)) := show _ = _ by rw [if_neg (by omega), if_neg (by omega)]
  clear hM hD hT hnext hh hit hm2
  refine Fr.cases (motive := fun a => Code.wp Try.prog spBody Q a wr) hfr ?_
  clear hfr
  intros
  conv => arg 2; whnf
  go_wp2_with fail
  go_region_held3 (fun w' => w'.cell? (ad.add (k * 2)) = some (.int .i64 kd) ∧ w'.cell? ⟨(ad.add (k * 2)).block, (ad.add (k * 2)).off + 1, none⟩ = some (.int .i64 (q : Int)))
    (first | exact ⟨hk0, hk1⟩ | exact ⟨hx0, hx1⟩)
    (first
      | (go_at_call 8; refine (unhide HD2).mono ?_; rintro e w3 ⟨rfl, hr3, hg3⟩
         have hi3 := Item.grown HI.out HH.out.bel.size (b := w.heap.size) ⟨hg3.os, hg3.tape, hg3.output, hg3.size, hg3.block⟩ (Nat.le_refl _)
         have hx0 := hi3.c0
         have hx1 := hi3.c1))
  have hmk : Blk w3 (w.heap.size + 1) 4 (mkb n m) := (HH.out.marks.drewN 1).grown hg3 (fun e => by injection e; omega)
  have hcm := hmk.cell q
  rw [mkb_get n m q hqn] at hcm
  have hfz := hmk.frozen q
  have HI3 := Lib.hid hi3
  have hr3' := Lib.hid hr3
  have hg3' := Lib.hid hg3
  have hmk' := Lib.hid hmk
  clear hr3 hg3 hi3 hmk
  go_wp2_with fail
  go_region_held3 (fun w' => w'.cell? (ad.add (k * 2)) = some (.int .i64 kd) ∧ w'.cell? ⟨(ad.add (k * 2)).block, (ad.add (k * 2)).off + 1, none⟩ = some (.int .i64 (q : Int)))
    (first | exact ⟨hx0, hx1⟩ | exact Item.set_ HI3.out _ _ _ (Nat.le_succ _) _ hx0 hx1)
    (first
      | (go_at_call 6; refine (within_any (q : Int) 0 ((n : Int) - 1) _).mono ?_; rw [HW.out]; rintro e w4 ⟨rfl, rfl⟩))
  go_wp2_with fail
  have hRing : Ring ((w3.setCell ⟨w.heap.size + 1, q, none⟩ (.bool (kd != 1))).drew) w.heap.size n u2 p2 m2 0 :=
    hr3'.out.grown (grown_drew (grown_set w3 (w.heap.size + 1) q _)) (fun e => by injection e; omega)
  have hMk : Blk ((w3.setCell ⟨w.heap.size + 1, q, none⟩ (.bool (kd != 1))).drew) (w.heap.size + 1) 4 (mkb n m2) := by
    have h := hmk'.out.set_ q (.bool (kd != 1))
    rw [mkb_put n m q _ HH.out.ring.ml (by omega), ← HM2.out] at h
    exact h
  have hBl : Below w.heap.size w ((w3.setCell ⟨w.heap.size + 1, q, none⟩ (.bool (kd != 1))).drew) :=
    ((below_drewN HH.out.bel 1).trans (below_of_grown hg3'.out (Nat.le_refl _) HH.out.bel.size)).setCell (p := ⟨w.heap.size + 1, q, none⟩) (by simp) _ |>.drew
  exact (unhide HN) _ _ u2 p2 m2 ⟨rfl, rfl, rfl, rfl, rfl, rfl, by go_num⟩ (Held.mk hRing HT.out hMk hBl)

set_option maxRecDepth 1000000 in
set_option maxHeartbeats 4000000 in
theorem round_keep (hfr : Fr n k w.heap.size len cap (some ad) a) (hh : Held w wr n u p m) (hn64 : n ≤ 64) (hk : k < len) (hk60 : k < 60) (hlen : len ≤ 9223372036854775807) (hit : Item w wr ad k kd ix)
    (q0 : 0 ≤ kd) (q5 : kd < 5) (hc : (doR n u p m kd ix).1 = 0) (h3 : ¬ kd < 3)
    (hnext : ∀ a' w' u2 p2 m2, Fr n (k + 1) w.heap.size len cap (some ad) a' → Held w w' n u2 p2 m2 → Q .normal a' w') : Code.wp Try.prog spBody Q a wr := by
  have HN := hide hnext
  have HH := Lib.hid hh
  have HI := Lib.hid hit
  have hadb := hit.adb
  have hk0 := hit.c0
  have hk1 := hit.c1
  have q5' : decide (kd < 5) = true := decide_eq_true q5
  have h3' : decide (kd < 3) = false := decide_eq_false h3
  have hD := does_any w.heap.size n u p m 0 kd ix (wr.drewN 1) (hh.ring.drewN 1)
  have hM := doR_marks (n := n) (u := u) (p := p) (m := m) (ix := ix) q0
  have hT := doR_tidy kd ix hh.tidy hn64 hh.ring.ul hh.ring.pl
  unfold DoesPost at hD
  generalize (doR n u p m kd ix).2.2.2 = m2 at hD hM hT
  generalize (doR n u p m kd ix).2.2.1 = p2 at hD hT
  generalize (doR n u p m kd ix).2.1 = u2 at hD hT
  generalize (doR n u p m kd ix).1 = c at hD hM hc
  have HD2 := hide hD
  have HT := Lib.hid hT
  have HM2 := Lib.hid (hM.2 (fun h => h3 h.2))
  subst hc
  clear hM hD hT hnext hh hit h3
  refine Fr.cases (motive := fun a => Code.wp Try.prog spBody Q a wr) hfr ?_
  clear hfr
  intros
  conv => arg 2; whnf
  go_wp2_with fail
  go_region_held3 (fun w' => w'.cell? (ad.add (k * 2)) = some (.int .i64 kd) ∧ w'.cell? ⟨(ad.add (k * 2)).block, (ad.add (k * 2)).off + 1, none⟩ = some (.int .i64 ix))
    (first | exact ⟨hk0, hk1⟩ | exact ⟨hx0, hx1⟩)
    (first
      | (go_at_call 8; refine (unhide HD2).mono ?_; rintro e w3 ⟨rfl, hr3, hg3⟩
         have hi3 := Item.grown HI.out HH.out.bel.size (b := w.heap.size) ⟨hg3.os, hg3.tape, hg3.output, hg3.size, hg3.block⟩ (Nat.le_refl _)
         have hx0 := hi3.c0
         have hx1 := hi3.c1))
  have hmk : Blk w3 (w.heap.size + 1) 4 (mkb n m2) := by rw [HM2.out]; exact (HH.out.marks.drewN 1).grown hg3 (fun e => by injection e; omega)
  have HF := Lib.hid (Held.mk hr3 HT.out hmk ((below_drewN HH.out.bel 1).trans (below_of_grown hg3 (Nat.le_refl _) HH.out.bel.size)))
  clear hmk hr3 hg3 hi3
  go_wp2_with fail
  exact (unhide HN) _ _ u2 p2 m2 ⟨rfl, rfl, rfl, rfl, rfl, rfl, by go_num⟩ HF.out
end

end Go.Proofs.Ytoiabaienhchjaa
