/- The walk of FletchSwaps: it returns true and writes nothing that was there. Conditions: none beyond that the arguments can be read. -/
import Derived.Test.YtdppneopfekddaaG
namespace Go.Proofs.Ytdppneopfekddaa
open Go.RowKit
set_option linter.unusedVariables false

/-- two neighbours have changed places -/
def swp (zs : List Int) (k : Nat) (x y : Int) : List Int := (zs.set k y).set (k + 1) x
theorem swp_mid (l m : List Int) (x y : Int) : swp (l ++ x :: y :: m) l.length x y = l ++ y :: x :: m := by
  unfold swp
  rw [List.set_append, if_neg (by omega), Nat.sub_self, List.set_cons_zero, List.set_append, if_neg (by omega), show l.length + 1 - l.length = 1 from by omega]
  rfl
theorem fsum_swp (zs : List Int) (k : Nat) (hk : k + 1 < zs.length) (hB : Byte zs) : (fsum 0 zs = fsum 0 (swp zs k zs[k] zs[k + 1])) ↔ zs[k] = zs[k + 1] := by
  have e1 : zs = zs.take k ++ zs[k] :: zs[k + 1] :: zs.drop (k + 2) := by simp
  have h := swp_mid (zs.take k) (zs.drop (k + 2)) zs[k] zs[k + 1]
  rw [← e1, show (zs.take k).length = k from by rw [List.length_take]; omega] at h
  rw [h]
  conv => lhs; lhs; rw [e1]
  exact swaps _ _ _ _ (hB _ (List.getElem_mem _)) (hB _ (List.getElem_mem _))

/-- what stays while the last statement runs -/
def Kp (w : World) (g n : Nat) (us : List Int) (w' : World) : Prop := Below w.heap.size w w' ∧ Reads w' w'.heap.size 1 (some ⟨g, 0, none⟩) n (vs us)
theorem kp_next {w : World} {g n b p q : Nat} {us : List Int} {x y : Value} {w1 w2 : World}
    (h : Kp w g n us w1 ∧ w1.cell? ⟨b, p, none⟩ = some x ∧ w1.cell? ⟨b, q, none⟩ = some y) (hb : Below w1.heap.size w1 w2) :
    Kp w g n us w2 ∧ w2.cell? ⟨b, p, none⟩ = some x ∧ w2.cell? ⟨b, q, none⟩ = some y :=
  ⟨⟨h.1.1.trans (hb.mono h.1.1.size), (h.1.2.below hb).more hb.size⟩, (hb.cell (World.block_lt_of_cell? w1 _ h.2.1)).trans h.2.1, (hb.cell (World.block_lt_of_cell? w1 _ h.2.2)).trans h.2.2⟩

theorem kp_b {w : World} {g n m b p q : Nat} {A : Option Addr} {us zs : List Int} {x y : Value} {w1 : World} (hr : Reads w w.heap.size 1 A m (vs zs))
    (h : Kp w g n us w1 ∧ w1.cell? ⟨b, p, none⟩ = some x ∧ w1.cell? ⟨b, q, none⟩ = some y) : Reads w1 w1.heap.size 1 A m (vs zs) := (hr.below h.1.1).more h.1.1.size
theorem kp_c {w : World} {g n b p q : Nat} {us : List Int} {x y : Value} {w1 : World}
    (h : Kp w g n us w1 ∧ w1.cell? ⟨b, p, none⟩ = some x ∧ w1.cell? ⟨b, q, none⟩ = some y) : Reads w1 w1.heap.size 1 (some ⟨g, 0, none⟩) n (vs us) := h.1.2
theorem kp_start {w : World} {g n b p q : Nat} {us : List Int} {x y : Value} {w1 : World}
    (h : Kp w g n us w1) (hx : w1.cell? ⟨b, p, none⟩ = some x) (hy : w1.cell? ⟨b, q, none⟩ = some y) :
    Kp w g n us w1.drew.drew ∧ w1.drew.drew.cell? ⟨b, p, none⟩ = some x ∧ w1.drew.drew.cell? ⟨b, q, none⟩ = some y :=
  ⟨⟨h.1.drew.drew, h.2⟩, hx, hy⟩

set_option maxHeartbeats 1000000 in
theorem swaps_walk (a0 : Option Addr) (len0 cap0 : Nat) (z0 : List Int) (a1 : Int) (w : World) (w0 : IsRow .u8 w a0 len0 cap0 z0) (w1 : (Lit.int .i64 a1).wf = true) :
    Calls Try.prog 6 #[.slice a0 len0 cap0, .int .i64 a1] w fun e w' => e = .returned (.bool true) ∧ Below w.heap.size w w' := by
  obtain ⟨hlc0, hcm0, _⟩ := isrow_bounds w0
  obtain ⟨hr0, hl0, hb0⟩ := isrow_reads w0 (min len0 400) (Nat.min_le_left _ _)
  have hn0 : min len0 400 ≤ 400 := by omega
  generalize z0.take (min len0 400) = zs at hr0 hl0 hb0
  have HC0 := hide (cut_any a0 len0 cap0 400 w hlc0 hcm0)
  generalize min len0 400 = n at *
  clear w0 w1 hlc0 hcm0
  by_cases hn : n < 2
  · have HL0 := Lib.hid hl0
    clear hl0
    go_enter Try.func6, Try.ntmps6
    go_wp2_with fail
    refine (unhide HC0).mono ?_
    rintro e w' ⟨rfl, rfl⟩
    clear HC0
    go_wp2_with fail
    refine (lives_any _).mono ?_
    rintro e w9 ⟨rfl, hb9⟩
    go_wp2_with fail
    go_ret
    exact ⟨rfl, hb9⟩
  · obtain ⟨k, hk, HW⟩ := within_k a1 (n - 2)
    rw [show (((n - 2 : Nat) : Nat) : Int) = (n : Int) - 2 from by omega] at HW
    have hkn : k + 1 < n := by omega
    have hk0 : (0 : Int) ≤ (k : Int) := by omega
    have hk1 : (k : Int) < (n : Int) := by omega
    have hk2 : (k : Int) + 1 < (n : Int) := by omega
    have hk3 : k + 1 < zs.length := by omega
    have hx := hb0 _ (List.getElem_mem (show k < zs.length by omega))
    have hy := hb0 _ (List.getElem_mem hk3)
    have hfs := fsum_swp zs k hk3 hb0
    have hgx := vs_get zs k (by omega)
    have hgy := vs_get zs (k + 1) hk3
    obtain ⟨ad, had, hadb, hcx0⟩ := reads_at hr0 hl0 (k := k) (by omega)
    obtain ⟨ad', had', _, hcy0⟩ := reads_at hr0 hl0 (k := k + 1) hkn
    rw [had] at had'
    injection had' with had'
    subst had' had
    obtain ⟨b, off, spot⟩ := ad
    have hspot : spot = none := by
      obtain ⟨ad0, had0, _, hc0⟩ := reads_at hr0 hl0 (k := 0) (by omega)
      injection had0 with had0
      subst had0
      simpa [Addr.add] using World.cell?_spot hc0
    subst hspot
    have hcx0 : w.cell? ⟨b, off + k, none⟩ = some (.int .u8 zs[k]) := by rw [← hcx0]; congr 1; unfold Addr.add; split <;> simp_all
    have hcy0 : w.cell? ⟨b, off + (k + 1), none⟩ = some (.int .u8 zs[k + 1]) := by rw [← hcy0]; congr 1
    generalize zs[k] = x at *
    generalize zs[k + 1] = y at *
    have hbs : Byte (swp zs k x y) := byte_set (byte_set hb0 hy) hx
    have hvs : vs (swp zs k x y) = ((vs zs).set k (.int .u8 y)).set (k + 1) (.int .u8 x) := by unfold swp; rw [vs_set, vs_set]
    have hlen : (swp zs k x y).length = n := by unfold swp; rw [List.length_set, List.length_set]; exact hl0
    generalize swp zs k x y = us at *
    have hfs1 : ((fsum 0 zs == fsum 0 us) == (x == y)) = true := by
      rw [beq_iff_eq, Bool.eq_iff_iff, beq_iff_eq, beq_iff_eq]; exact hfs
    have HL0 := Lib.hid hl0
    have HL1 := Lib.hid hlen
    have HV := Lib.hid hvs
    have HX := Lib.hid hgx
    have HY := Lib.hid hgy
    have HW' := hide HW
    have HF := Lib.hid hfs1
    clear hl0 hlen hvs HW hn hfs hk3 hgx hgy hfs1
    go_enter Try.func6, Try.ntmps6
    go_wp2_with fail
    refine (unhide HC0).mono ?_
    rintro e w' ⟨rfl, rfl⟩
    clear HC0
    go_wp2_with fail
    refine (copy_any' _ _ _ zs _ hr0 (by omega)).mono ?_
    rintro e w2 ⟨A2, c2, rfl, hown2, hbl2⟩
    obtain ⟨g, cap, hv, hg1, hg2⟩ := hown2.form (by omega)
    injection hv with hA _ hcap
    subst hA
    go_wp2_with fail
    refine (unhide HW' _).mono ?_
    rintro e w' ⟨rfl, rfl⟩
    clear HW' hcap
    go_wp2_with fail
    have hbx := (hbl2.cell (p := ⟨b, off + k, none⟩) hadb).trans hcx0
    have hby := (hbl2.cell (p := ⟨b, off + (k + 1), none⟩) hadb).trans hcy0
    have hcx : w2.cell? ⟨g, k, none⟩ = some (.int .u8 x) := (hown2.cellAt k (by omega)).trans HX.out
    have hcy : w2.cell? ⟨g, k + 1, none⟩ = some (.int .u8 y) := (hown2.cellAt (k + 1) (by omega)).trans HY.out
    have hfx := hown2.frozenAt k
    have hfy := hown2.frozenAt (k + 1)
    go_region
    go_wp2_with fail
    have hown3 := (hown2.stored k (.int .u8 y)).1
    have hown4 := (hown3.stored (k + 1) (.int .u8 x)).1
    rw [← HV.out] at hown4
    have hrc := Reads.of_own hown4
    have hK : Kp w g n us ((w2.setCell ⟨g, k, none⟩ (.int .u8 y)).setCell ⟨g, k + 1, none⟩ (.int .u8 x)) :=
      ⟨(hbl2.setCell (p := ⟨g, k, none⟩) hg1 _).setCell (p := ⟨g, k + 1, none⟩) hg1 _, hrc⟩
    have hx3 := (hK.1.cell (p := ⟨b, off + k, none⟩) hadb).trans hcx0
    have hy3 := (hK.1.cell (p := ⟨b, off + (k + 1), none⟩) hadb).trans hcy0
    clear hown4 hown3 hown2 hrc hcx hcy hfx hfy hbx hby
    have HK := Lib.hid hK
    clear hK
    have hn12 : n ≤ 1200 := by omega
    have e1 : 0 ≤ (k : Int) + 1 := by omega
    have e2 : IntKind.i64.wrap ((k : Int) + 1) = (k : Int) + 1 := IntWalk.i64_in _ (by omega)
    have e3 : ((k : Int) + 1).toNat = k + 1 := by omega
    have hF := HF.out
    go_region_held3 (fun w' => Kp w g n us w' ∧ w'.cell? ⟨b, off + k, none⟩ = some (.int .u8 x) ∧ w'.cell? ⟨b, off + (k + 1), none⟩ = some (.int .u8 y))
      (first | exact kp_start HK.out hx3 hy3 | exact kp_next ‹_› ‹_›)
      (first
        | (go_at_call_of 11 (Value.slice (some ⟨b, off, none⟩) n cap0); refine (sum_any _ _ _ zs _ ?_ HL0.out hb0 hn12).mono ?_; exact kp_b hr0 (by assumption); rintro e w5 ⟨rfl, hb5⟩)
        | (go_at_call_of 11 (Value.slice (some ⟨g, 0, none⟩) n cap); refine (sum_any _ _ _ us _ ?_ HL1.out hbs hn12).mono ?_; exact kp_c (by assumption); rintro e w6 ⟨rfl, hb6⟩)
        | (go_at_call 13; refine (lives_any _).mono ?_; rintro e w9 ⟨rfl, hb9⟩))
    clear e1 e2 e3 hF
    go_wp2_with fail
    go_ret
    refine ⟨rfl, ?_⟩
    have hend : Kp w g n us w9 ∧ w9.cell? ⟨b, off + k, none⟩ = some (.int .u8 x) ∧ w9.cell? ⟨b, off + (k + 1), none⟩ = some (.int .u8 y) := by assumption
    exact hend.1.1

end Go.Proofs.Ytdppneopfekddaa
