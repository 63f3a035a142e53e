/- Contracts of the functions that read a slice of bytes: Cut, Copy, both Adds, Sum, Same, Within, lives. Conditions: at most 1200 bytes, each from 0 to 255. -/
import Derived.Test.YtdppneopfekddaaA
import Derived.Test.YtdppneopfekddaaWords
import Derived.BigQuiet
namespace Go.Proofs.Ytdppneopfekddaa
open Go.RowKit
set_option linter.unusedVariables false

def vs (zs : List Int) : List Value := zs.map (Value.int .u8)
def Byte (zs : List Int) : Prop := ∀ z ∈ zs, 0 ≤ z ∧ z ≤ 255
theorem vs_length (zs : List Int) : (vs zs).length = zs.length := by simp [vs]
theorem vs_get (zs : List Int) (k : Nat) (h : k < zs.length) : (vs zs)[k]? = some (.int .u8 zs[k]) := by simp [vs, h]

theorem reads_at {w : World} {B : Nat} {A : Option Addr} {n : Nat} {zs : List Int} (h : Reads w B 1 A n (vs zs)) (hn : zs.length = n) {k : Nat} (hk : k < n) :
    ∃ ad, A = some ad ∧ ad.block < B ∧ w.cell? (ad.add k) = some (.int .u8 (zs[k]'(by omega))) := by
  obtain ⟨ad, u, e, hb, hx, hc⟩ := h.at_ hk
  rw [vs_get zs k (by omega)] at hx
  injection hx with hx
  exact ⟨ad, e, hb, by rw [hc, hx]⟩

theorem cut_long (A : Option Addr) (n c m : Nat) (w : World) (h : m < n) (hc : n ≤ c) (hm : c ≤ maxLen) :
    Calls Try.prog 7 #[.slice A n c, .int .i64 m] w fun e w' => e = .returned (.slice A m c) ∧ w' = w := by
  unfold maxLen at hm
  go_enter Try.func7, Try.ntmps7
  go_wp2
  go_ret
  exact ⟨rfl, rfl⟩

theorem cut_short (A : Option Addr) (n c m : Nat) (w : World) (h : n ≤ m) (hc : n ≤ c) (hm : c ≤ maxLen) :
    Calls Try.prog 7 #[.slice A n c, .int .i64 m] w fun e w' => e = .returned (.slice A n c) ∧ w' = w := by
  unfold maxLen at hm
  go_enter Try.func7, Try.ntmps7
  go_wp2
  go_ret
  exact ⟨rfl, rfl⟩

theorem within_any (x lo hi : Int) (w : World) :
    Calls Try.prog 14 #[.int .i64 x, .int .i64 lo, .int .i64 hi] w fun e w' => e = .returned (.int .i64 (if x < lo then lo else if hi < x then hi else x)) ∧ w = w' := by
  by_cases h1 : x < lo
  · rw [if_pos h1]
    go_enter Try.func14, Try.ntmps14
    go_wp2
    go_ret
    exact ⟨rfl, rfl⟩
  · rw [if_neg h1]
    by_cases h2 : hi < x
    · rw [if_pos h2]
      go_enter Try.func14, Try.ntmps14
      go_wp2
      go_ret
      exact ⟨rfl, rfl⟩
    · rw [if_neg h2]
      go_enter Try.func14, Try.ntmps14
      go_wp2
      go_ret
      exact ⟨rfl, rfl⟩

theorem byte_info : (Try.prog.info? 5).map (fun i => (i.zero, i.size, i.bytes)) = some (some (.int .u8 0), 1, 1) := by kernel_rfl

theorem copy_any (A : Option Addr) (n c : Nat) (zs : List Int) (w : World) (hr : Reads w w.heap.size 1 A n (vs zs)) (hn : n ≤ 1200) :
    Calls Try.prog 8 #[.slice A n c] w fun e w' => ∃ v, e = .returned v ∧ w'.ownsRow w.heap.size 5 1 v n (vs zs) ∧ Below w.heap.size w w' := by
  obtain ⟨i0, hi0, hz0, hz1, hz2⟩ := info_parts byte_info
  have h1 : ∀ u ∈ vs zs, u.oneCell' = true := by
    intro u hu
    obtain ⟨z, _, rfl⟩ := List.mem_map.1 hu
    rfl
  go_enter Try.func8, Try.ntmps8
  go_wp2_with (first
    | (at_builtin
       refine wpList_append_any _ rfl (.tmp 4) (.tmp 5) _ rfl w.heap.size 5 i0 _ 1 1 Try.underlying23 hi0 hz0 hz1 hz2 rfl (by omega) (.slice none 0 0) 0 [] rfl
         ⟨by simp, .inl ⟨rfl, rfl⟩⟩ w.heap.size A n c (vs zs) rfl hr h1 (by simp only [maxLen]; omega) (by omega) (Nat.le_refl _) ?_
       intro v1 w1 hown1 hg1 hat1))
  go_ret
  exact ⟨v1, rfl, by simpa using hown1, (Below.refl _ _).grown hg1 (Nat.le_refl _) (by simp [Value.ownBlock])⟩

theorem Blk.new2 (w : World) (o : Obj) (t : TypeId) (cs : Array Value) : Blk ((w.alloc o).alloc (.cells cs t)) (w.heap.size + 1) t cs := by
  have := Blk.new (w.alloc o) t cs
  simpa using this

set_option maxHeartbeats 400000 in
theorem add_any (s : Int) (A : Option Addr) (n c : Nat) (zs : List Int) (w : World) (h0 : 0 ≤ s) (h1 : s < 4294967296) (hr : Reads w w.heap.size 1 A n (vs zs)) (hl : zs.length = n) (hb : Byte zs) (hn : n ≤ 1200) :
    Calls Try.prog 9 #[.int .u32 s, .slice A n c] w fun e w' => e = .returned (.int .u32 (fsum s zs)) ∧ Below w.heap.size w w' := by
  have HL := Lib.hid hl
  clear hl
  go_enter Try.func9, Try.ntmps9
  go_wp2_with (go_at_call 15; refine (of_any _ h0 h1 _).mono ?_; rintro e w' ⟨rfl, rfl⟩)
  go_loopw [12] (fun i wr => ∃ k : Nat, k ≤ n ∧ i = .int .i64 k ∧ Blk wr (w.heap.size + 1) 36 #[.int .u32 (fl (st0 s) (zs.take k)).1, .int .u32 (fl (st0 s) (zs.take k)).2] ∧ Below w.heap.size w wr) (fun i _ => n - (intOf i).toNat)
  case atStart => exact ⟨0, Nat.zero_le _, rfl, by rw [List.take_zero]; exact Blk.new2 w _ _ _, ((Below.refl _ _).alloc (Nat.le_refl _) _).alloc (by simp) _⟩
  case round =>
    obtain ⟨k, hk, rfl, hblk, hbel⟩ := hrel
    have c0 : wr.cell? ⟨w.heap.size + 1, 0, none⟩ = some (.int .u32 (fl (st0 s) (zs.take k)).1) := hblk.cell 0
    have c1 : wr.cell? ⟨w.heap.size + 1, 1, none⟩ = some (.int .u32 (fl (st0 s) (zs.take k)).2) := hblk.cell 1
    have f0 := hblk.frozen 0
    have f1 := hblk.frozen 1
    have hlt0 := hblk.lt
    have hin := fl_in (st0 s) (zs.take k) (st0_in s)
    by_cases hlt : k < n
    · obtain ⟨ad, rfl, hadb, hc⟩ := reads_at (hr.below hbel) HL.out hlt
      have hz := hb _ (List.getElem_mem (l := zs) (n := k) (by have := HL.out; omega))
      have HS : Hid (fl (st0 s) (zs.take (k + 1)) = stp (fl (st0 s) (zs.take k)) (zs[k]'(by have := HL.out; omega))) := by
        show _ = _
        rw [List.take_succ_eq_append_getElem (by have := HL.out; omega), fl_snoc]
      generalize zs[k]'(by have := HL.out; omega) = z at hc hz HS
      obtain ⟨hz0, hz1⟩ := hz
      generalize fl (st0 s) (zs.take k) = p at *
      go_wp2_with (go_at_call 16; refine (take_any p z _ hin hz0 hz1).mono ?_; rintro e w1 ⟨rfl, hb1⟩; have d0 := (hb1.cell (p := ⟨w.heap.size + 1, 0, none⟩) hlt0).trans c0; have d1 := (hb1.cell (p := ⟨w.heap.size + 1, 1, none⟩) hlt0).trans c1; have g0 := (hb1.frozen (p := ⟨w.heap.size + 1, 0, none⟩) hlt0).trans f0; have g1 := (hb1.frozen (p := ⟨w.heap.size + 1, 1, none⟩) hlt0).trans f1)
      go_roundw
      case rel =>
        refine ⟨k + 1, by omega, by go_num, ?_, ?_⟩
        · rw [HS.out]
          exact ((hblk.below hb1 hlt0).set_ 0 _).set_ 1 _
        · exact ((hbel.trans (hb1.mono hbel.size)).setCell (by simp) _).setCell (by simp) _
      case measure => simp [intOf]; omega
    · have hkn : k = n := by omega
      have HS : Hid (fl (st0 s) (zs.take k) = fl (st0 s) zs) := by
        show _ = _
        rw [List.take_of_length_le (by have := HL.out; omega)]
      clear hkn
      generalize fl (st0 s) (zs.take k) = p at *
      go_wp2_with (go_at_call 17; refine (whole_any p _ hin).mono ?_; rintro e w1 ⟨rfl, hb1⟩)
      go_ret
      exact ⟨by rw [HS.out]; rfl, hbel.trans (hb1.mono hbel.size)⟩

theorem sum_any (A : Option Addr) (n c : Nat) (zs : List Int) (w : World) (hr : Reads w w.heap.size 1 A n (vs zs)) (hl : zs.length = n) (hb : Byte zs) (hn : n ≤ 1200) :
    Calls Try.prog 11 #[.slice A n c] w fun e w' => e = .returned (.int .u32 (fsum 0 zs)) ∧ Below w.heap.size w w' := by
  have HL := Lib.hid hl
  clear hl
  go_enter Try.func11, Try.ntmps11
  go_wp2_with (go_at_call 9; refine (add_any 0 _ _ _ zs _ (by omega) (by omega) hr HL.out hb hn).mono ?_; rintro e w1 ⟨rfl, hb1⟩)
  go_ret
  exact ⟨rfl, hb1⟩

set_option maxHeartbeats 400000 in
theorem ref_any (s : Int) (A : Option Addr) (n c : Nat) (zs : List Int) (w : World) (h0 : 0 ≤ s) (h1 : s < 4294967296) (hr : Reads w w.heap.size 1 A n (vs zs)) (hl : zs.length = n) (hb : Byte zs) (hn : n ≤ 1200) :
    Calls Try.prog 10 #[.int .u32 s, .slice A n c] w fun e w' => e = .returned (.int .u32 (fsum s zs)) ∧ w = w' := by
  have HL := Lib.hid hl
  clear hl
  go_enter Try.func10, Try.ntmps10
  go_wp2
  go_loop [5, 6, 7] (fun f g i => ∃ k : Nat, k ≤ n ∧ i = .int .i64 k ∧ f = .int .u64 (fl (st0 s) (zs.take k)).1 ∧ g = .int .u64 (fl (st0 s) (zs.take k)).2) (fun _ _ i => n - (intOf i).toNat)
  case atStart => exact ⟨0, Nat.zero_le _, rfl, rfl, rfl⟩
  case round =>
    obtain ⟨k, hk, rfl, rfl, rfl⟩ := hrel
    have hin := fl_in (st0 s) (zs.take k) (st0_in s)
    by_cases hlt : k < n
    · obtain ⟨ad, rfl, hadb, hc⟩ := reads_at hr HL.out hlt
      have hz := hb _ (List.getElem_mem (l := zs) (n := k) (by have := HL.out; omega))
      have HS : Hid (fl (st0 s) (zs.take (k + 1)) = stp (fl (st0 s) (zs.take k)) (zs[k]'(by have := HL.out; omega))) := by
        show _ = _
        rw [List.take_succ_eq_append_getElem (by have := HL.out; omega), fl_snoc]
      generalize zs[k]'(by have := HL.out; omega) = z at hc hz HS
      obtain ⟨hz0, hz1⟩ := hz
      generalize fl (st0 s) (zs.take k) = p at *
      obtain ⟨a, b⟩ := p
      obtain ⟨⟨ha, ha'⟩, hb0, hb0'⟩ := hin
      simp only at ha ha' hb0 hb0' 
      go_wp2
      go_round
      case rel => exact ⟨k + 1, by omega, by go_num, by rw [HS.out]; rfl, by rw [HS.out]; unfold stp; simp only; go_num⟩
      case measure => simp [intOf]; omega
    · have hkn : k = n := by omega
      have HS : Hid (fl (st0 s) (zs.take k) = fl (st0 s) zs) := by
        show _ = _
        rw [List.take_of_length_le (by have := HL.out; omega)]
      clear hkn
      generalize fl (st0 s) (zs.take k) = p at *
      obtain ⟨a, b⟩ := p
      obtain ⟨⟨ha, ha'⟩, hb0, hb0'⟩ := hin
      simp only at ha ha' hb0 hb0' 
      go_wp2
      go_ret
      exact ⟨by unfold fsum; rw [← HS.out]; rfl, rfl⟩

end Go.Proofs.Ytdppneopfekddaa
