/- The plain law of fletch: the two sums, on lists of integers; no program in sight. Conditions: bytes are from 0 to 255. -/
import Derived.Test.YtdppneopfekddaaRows
import Derived.Below
import Derived.Laws.BitsLemmas
import Derived.Laws.BitsAllLaws
namespace Go.Proofs.Ytdppneopfekddaa
open Go.RowKit

def stp (p : Int × Int) (c : Int) : Int × Int := ((p.1 + c) % 65535, (p.2 + (p.1 + c) % 65535) % 65535)
def fl (p : Int × Int) (l : List Int) : Int × Int := l.foldl stp p
def st0 (s : Int) : Int × Int := (s % 65536 % 65535, s / 65536 % 65535)
def wh (p : Int × Int) : Int := p.2 * 65536 + p.1
def fsum (s : Int) (l : List Int) : Int := wh (fl (st0 s) l)
def In (p : Int × Int) : Prop := (0 ≤ p.1 ∧ p.1 < 65535) ∧ (0 ≤ p.2 ∧ p.2 < 65535)

theorem st0_in (s : Int) : In (st0 s) := by
  unfold In st0
  simp only
  omega
theorem stp_in (p : Int × Int) (c : Int) : In (stp p c) := by
  unfold In stp
  simp only
  omega
theorem fl_in (p : Int × Int) (l : List Int) (h : In p) : In (fl p l) := by
  induction l generalizing p with
  | nil => exact h
  | cons c l ih => exact ih _ (stp_in p c)
theorem fl_append (p : Int × Int) (l m : List Int) : fl p (l ++ m) = fl (fl p l) m := by simp [fl]
theorem fl_snoc (p : Int × Int) (l : List Int) (c : Int) : fl p (l ++ [c]) = stp (fl p l) c := by simp [fl]
theorem wh_in (p : Int × Int) (h : In p) : 0 ≤ wh p ∧ wh p < 4294967296 := by
  unfold In at h
  unfold wh
  omega
theorem fsum_in (s : Int) (l : List Int) : 0 ≤ fsum s l ∧ fsum s l < 4294967296 := wh_in _ (fl_in _ _ (st0_in s))
/-- A sum taken up again is the state that it was. -/
theorem st0_wh (p : Int × Int) (h : In p) : st0 (wh p) = p := by
  unfold In at h
  unfold st0 wh
  ext <;> simp only <;> omega
theorem fsum_append (s : Int) (l m : List Int) : fsum (fsum s l) m = fsum s (l ++ m) := by
  unfold fsum
  rw [st0_wh _ (fl_in _ _ (st0_in s)), fl_append]
theorem wh_inj (p q : Int × Int) (hp : In p) (hq : In q) (h : wh p = wh q) : p = q := by
  unfold In at hp hq
  unfold wh at h
  ext <;> omega

/-- Other firsts stay others. -/
theorem fl_first (p q : Int × Int) (l : List Int) (hp : In p) (hq : In q) (h : p.1 ≠ q.1) : (fl p l).1 ≠ (fl q l).1 := by
  induction l generalizing p q with
  | nil => exact h
  | cons c l ih =>
    refine ih _ _ (stp_in p c) (stp_in q c) ?_
    unfold In at hp hq
    unfold stp
    simp only
    omega
/-- Of the same first, other seconds stay others. -/
theorem fl_second (p q : Int × Int) (l : List Int) (hp : In p) (hq : In q) (h1 : p.1 = q.1) (h : p.2 ≠ q.2) : (fl p l).2 ≠ (fl q l).2 := by
  induction l generalizing p q with
  | nil => exact h
  | cons c l ih =>
    refine ih _ _ (stp_in p c) (stp_in q c) ?_ ?_
    · unfold stp
      simp only [h1]
    · unfold In at hp hq
      unfold stp
      simp only [h1]
      omega
/-- One byte that is another one. -/
theorem turns (l m : List Int) (x y : Int) (hx : 0 ≤ x ∧ x ≤ 255) (hy : 0 ≤ y ∧ y ≤ 255) (h : x ≠ y) : fsum 0 (l ++ x :: m) ≠ fsum 0 (l ++ y :: m) := by
  intro e
  have e' := wh_inj _ _ (fl_in _ _ (st0_in 0)) (fl_in _ _ (st0_in 0)) e
  rw [fl_append, fl_append] at e'
  have hp := fl_in (st0 0) l (st0_in 0)
  refine fl_first _ _ m (stp_in (fl (st0 0) l) x) (stp_in (fl (st0 0) l) y) ?_ (congrArg Prod.fst e')
  generalize fl (st0 0) l = p at hp ⊢
  unfold In at hp
  unfold stp
  simp only
  omega
/-- Two neighbours that change places. -/
theorem swaps (l m : List Int) (x y : Int) (hx : 0 ≤ x ∧ x ≤ 255) (hy : 0 ≤ y ∧ y ≤ 255) : fsum 0 (l ++ x :: y :: m) = fsum 0 (l ++ y :: x :: m) ↔ x = y := by
  constructor
  · intro e
    apply Classical.byContradiction
    intro h
    have e' := wh_inj _ _ (fl_in _ _ (st0_in 0)) (fl_in _ _ (st0_in 0)) e
    rw [fl_append, fl_append] at e'
    have hp := fl_in (st0 0) l (st0_in 0)
    refine fl_second _ _ m (stp_in (stp (fl (st0 0) l) x) y) (stp_in (stp (fl (st0 0) l) y) x) ?_ ?_ (congrArg Prod.snd e')
    · generalize fl (st0 0) l = p at hp ⊢
      unfold In at hp
      unfold stp
      simp only
      omega
    · generalize fl (st0 0) l = p at hp ⊢
      unfold In at hp
      unfold stp
      simp only
      omega
  · rintro rfl
    rfl

theorem and65535 (s : Int) (h0 : 0 ≤ s) (h1 : s < 4294967296) : bits .and .u32 s 65535 = s % 65536 := by
  rw [u32_and s 65535 h0 h1 (by omega) (by omega)]
  have e : (s.toNat &&& (65535 : Int).toNat) = s.toNat % 65536 := Nat.and_two_pow_sub_one_eq_mod s.toNat 16
  rw [e]
  omega
theorem or_add (a b : Int) (ha : 0 ≤ a) (ha' : a < 65535) (hb : 0 ≤ b) (hb' : b < 65535) : bits .or .u32 (b * 65536) a = b * 65536 + a := by
  rw [u32_or _ _ (by omega) (by omega) ha (by omega)]
  obtain ⟨m, rfl⟩ := Int.eq_ofNat_of_zero_le ha
  obtain ⟨n, rfl⟩ := Int.eq_ofNat_of_zero_le hb
  have e : ((n : Int) * 65536).toNat = 2 ^ 16 * n := by omega
  rw [e, Int.toNat_natCast, ← Nat.two_pow_add_eq_or_of_lt (by omega)]
  omega

end Go.Proofs.Ytdppneopfekddaa
