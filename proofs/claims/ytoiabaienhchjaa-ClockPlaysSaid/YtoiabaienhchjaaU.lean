/- The document's ring: its cells; New, Do. -/
import Derived.Test.YtoiabaienhchjaaJ
import Derived.Deep.OwnRows
namespace Go.Proofs.Ytoiabaienhchjaa
open Go.RowKit
set_option linter.unusedVariables false

/-- the cells of the document's places: used, pinned, marked, one place behind the other -/
def plc (n u p m : Nat) : Array Value := ((List.range (n * 3)).map fun i => Value.bool ((if i % 3 = 0 then u else if i % 3 = 1 then p else m).testBit (i / 3))).toArray
theorem plc_get (n u p m i : Nat) (h : i < n * 3) : (plc n u p m)[i]? = some (.bool ((if i % 3 = 0 then u else if i % 3 = 1 then p else m).testBit (i / 3))) := by simp [plc, h]
theorem plc_size (n u p m : Nat) : (plc n u p m).size = n * 3 := by simp [plc]
theorem plc_u {n u p m j : Nat} (h : j < n) : (plc n u p m)[j * 3]? = some (.bool (u.testBit j)) := by
  rw [plc_get _ _ _ _ _ (by omega), if_pos (by omega), show j * 3 / 3 = j by omega]
theorem plc_p {n u p m j : Nat} (h : j < n) : (plc n u p m)[j * 3 + 1]? = some (.bool (p.testBit j)) := by
  rw [plc_get _ _ _ _ _ (by omega), if_neg (by omega), if_pos (by omega), show (j * 3 + 1) / 3 = j by omega]
theorem plc_m {n u p m j : Nat} (h : j < n) : (plc n u p m)[j * 3 + 2]? = some (.bool (m.testBit j)) := by
  rw [plc_get _ _ _ _ _ (by omega), if_neg (by omega), if_neg (by omega), show (j * 3 + 2) / 3 = j by omega]
theorem plc_zero (n : Nat) : madeCells #[.bool false, .bool false, .bool false] (n * 3) = plc n 0 0 0 := by
  apply Array.ext_getElem?
  intro i
  by_cases h : i < n * 3
  · rw [plc_get _ _ _ _ _ h]
    have h3 : i % 3 = 0 ∨ i % 3 = 1 ∨ i % 3 = 2 := by omega
    rcases h3 with h3 | h3 | h3 <;> simp [madeCells, h, h3]
  · rw [Array.getElem?_eq_none (by rw [size_madeCells]; omega), Array.getElem?_eq_none (by rw [plc_size]; omega)]
theorem plc_put (n u p m k : Nat) (x y z : Bool) (hu : u < 18446744073709551616) (hp : p < 18446744073709551616) (hm : m < 18446744073709551616) (hk : k < n) (h64 : k < 64) :
    (((plc n u p m).setIfInBounds (k * 3) (.bool x)).setIfInBounds (k * 3 + 1) (.bool y)).setIfInBounds (k * 3 + 2) (.bool z) = plc n (put u k x) (put p k y) (put m k z) := by
  apply Array.ext_getElem?
  intro i
  simp only [Array.getElem?_setIfInBounds, Array.size_setIfInBounds, plc_size]
  by_cases h : i < n * 3
  · rw [plc_get _ _ _ _ _ h, plc_get _ _ _ _ _ h]
    by_cases h0 : i / 3 = k
    · have h3 : i % 3 = 0 ∨ i % 3 = 1 ∨ i % 3 = 2 := by omega
      rcases h3 with h3 | h3 | h3
      · rw [if_neg (by omega), if_neg (by omega), if_pos (by omega), if_pos (by omega), if_pos h3, put_bit _ _ _ hu h64, if_pos h0]
      · rw [if_neg (by omega), if_pos (by omega), if_pos (by omega), if_neg (by omega), if_pos h3, put_bit _ _ _ hp h64, if_pos h0]
      · rw [if_pos (by omega), if_pos (by omega), if_neg (by omega), if_neg (by omega), put_bit _ _ _ hm h64, if_pos h0]
    · rw [if_neg (by omega), if_neg (by omega), if_neg (by omega)]
      congr 2
      split
      · rw [put_bit _ _ _ hu h64, if_neg h0]
      · split
        · rw [put_bit _ _ _ hp h64, if_neg h0]
        · rw [put_bit _ _ _ hm h64, if_neg h0]
  · rw [if_neg (by omega), if_neg (by omega), if_neg (by omega), Array.getElem?_eq_none (by rw [plc_size]; omega), Array.getElem?_eq_none (by rw [plc_size]; omega)]
theorem plc_mark (n u p m k : Nat) (z : Bool) (hm : m < 18446744073709551616) (hk : k < n) (h64 : k < 64) :
    (plc n u p m).setIfInBounds (k * 3 + 2) (.bool z) = plc n u p (put m k z) := by
  apply Array.ext_getElem?
  intro i
  simp only [Array.getElem?_setIfInBounds, plc_size]
  by_cases h : i < n * 3
  · rw [plc_get _ _ _ _ _ h, plc_get _ _ _ _ _ h]
    by_cases h0 : k * 3 + 2 = i
    · rw [if_pos h0, if_pos (by omega), if_neg (by omega), if_neg (by omega), put_bit _ _ _ hm h64, if_pos (by omega)]
    · rw [if_neg h0]
      congr 2
      split
      · rfl
      · split
        · rfl
        · rw [put_bit _ _ _ hm h64, if_neg (by omega)]
  · rw [if_neg (by omega), Array.getElem?_eq_none (by rw [plc_size]; omega), Array.getElem?_eq_none (by rw [plc_size]; omega)]

/-- the document's ring at g, its places in block q -/
structure RRing (w : World) (g q n u p m h : Nat) : Prop where
  hd : Blk w g 51 #[.slice (some ⟨q, 0, none⟩) n n, .int .i64 (h : Int)]
  pl : Blk w q 60 (plc n u p m)
  n64 : n ≤ 64
  hn : h < n
  ul : u < 18446744073709551616
  pl' : p < 18446744073709551616
  ml : m < 18446744073709551616
section
variable {w w' : World} {g q n u p m h : Nat}
theorem RRing.l_ (r : RRing w g q n u p m h) : w.cell? ⟨g, 0, none⟩ = some (.slice (some ⟨q, 0, none⟩) n n) := r.hd.cell 0
theorem RRing.h_ (r : RRing w g q n u p m h) : w.cell? ⟨g, 1, none⟩ = some (.int .i64 (h : Int)) := r.hd.cell 1
theorem RRing.u_ (r : RRing w g q n u p m h) {j : Nat} (hj : j < n) : w.cell? ⟨q, j * 3, none⟩ = some (.bool (u.testBit j)) := (r.pl.cell _).trans (plc_u hj)
theorem RRing.p_ (r : RRing w g q n u p m h) {j : Nat} (hj : j < n) : w.cell? ⟨q, j * 3 + 1, none⟩ = some (.bool (p.testBit j)) := (r.pl.cell _).trans (plc_p hj)
theorem RRing.m_ (r : RRing w g q n u p m h) {j : Nat} (hj : j < n) : w.cell? ⟨q, j * 3 + 2, none⟩ = some (.bool (m.testBit j)) := (r.pl.cell _).trans (plc_m hj)
theorem RRing.below {B : Nat} (r : RRing w g q n u p m h) (hb : Below B w w') (hg : g < B) (hq : q < B) : RRing w' g q n u p m h := ⟨r.hd.below hb hg, r.pl.below hb hq, r.n64, r.hn, r.ul, r.pl', r.ml⟩
theorem RRing.grown {row : Option Nat} (r : RRing w g q n u p m h) (hb : w.grownBy w' row) (hg : some g ≠ row) (hq : some q ≠ row) : RRing w' g q n u p m h := ⟨r.hd.grown hb hg, r.pl.grown hb hq, r.n64, r.hn, r.ul, r.pl', r.ml⟩
theorem RRing.drewN (r : RRing w g q n u p m h) (k : Nat) : RRing (w.drewN k) g q n u p m h := ⟨r.hd.drewN k, r.pl.drewN k, r.n64, r.hn, r.ul, r.pl', r.ml⟩
theorem RRing.ne (r : RRing w g q n u p m h) : g ≠ q := r.hd.ne_ r.pl (by decide)
end

theorem plc_info : (Try.prog.info? 60).map (fun i => (i.zero, i.size, i.bytes)) = some (some (.agg #[.bool false, .bool false, .bool false]), 3, 3) := by kernel_rfl

theorem rnew_bad (n : Int) (w : World) (hn : n < 1 ∨ 64 < n) : Calls Try.prog 14 #[.int .i64 n] w fun e w' => e = .returned (.tuple #[.pointer none, .int .i64 2]) ∧ w = w' := by
  by_cases h1 : n < 1
  · clear hn
    go_enter Try.func14, Try.ntmps14
    go_wp2
    go_ret2
    exact ⟨rfl, rfl⟩
  · have h2 : 64 < n := by omega
    clear hn
    go_enter Try.func14, Try.ntmps14
    go_wp2
    go_ret2
    exact ⟨rfl, rfl⟩
theorem rnew_ok (n : Nat) (w : World) (h1 : 0 < n) (h2 : n ≤ 64) : Calls Try.prog 14 #[.int .i64 (n : Int)] w fun e w' => e = .returned (.tuple #[.pointer (some ⟨w.heap.size + 1, 0, none⟩), .int .i64 0]) ∧ RRing w' (w.heap.size + 1) w.heap.size n 0 0 0 0 ∧ Below w.heap.size w w' := by
  obtain ⟨i0, hi0, hz0, hz1, hz2⟩ := info_parts plc_info
  have hr := run_make (P := Try.prog) w 49 60 i0 (.agg #[.bool false, .bool false, .bool false]) Try.underlying49 hi0 hz0 .i64 .i64 n n (by omega) (Int.le_refl _) (by rw [hz2]; omega) (by omega)
  simp only [Int.toNat_natCast, hz1] at hr
  rw [show (Value.agg #[.bool false, .bool false, .bool false]).cells = #[.bool false, .bool false, .bool false] from rfl, plc_zero] at hr
  clear hi0 hz0 hz1 hz2
  go_enter Try.func14, Try.ntmps14
  go_wp2
  go_ret2
  refine ⟨rfl, ⟨?_, ?_, h2, h1, by omega, by omega, by omega⟩, ((Below.refl _ _).alloc (Nat.le_refl _) _).alloc (by simp) _⟩
  · exact Blk.new2 w _ _ _
  · exact (Blk.new w _ _).alloc _

end Go.Proofs.Ytoiabaienhchjaa
