/- The document's Lists; SameInts of equal lists. -/
import Derived.Test.YtoiabaienhchjaaX
namespace Go.Proofs.Ytoiabaienhchjaa
open Go.RowKit
set_option linter.unusedVariables false

theorem own_form {w' : World} {base : Nat} {zs : List Int} {v : Value} (h : w'.ownsRow base 3 1 v zs.length (vi zs)) : ∃ (A : Option Addr) (c : Nat), v = .slice A zs.length c ∧ Reads w' w'.heap.size 1 A zs.length (vi zs) := by
  have h2 := h
  rcases h.2 with ⟨rfl, h0⟩ | ⟨g, cap, cur, rfl, _, _, hc, hm, _⟩
  · rw [h0] at h2
    exact ⟨none, 0, by rw [h0], by rw [h0]; exact Reads.of_own h2⟩
  · exact ⟨_, _, rfl, Reads.of_own h2⟩
def Apart (a b : Value) : Prop := ∀ k, a.ownBlock = some k → b.ownBlock ≠ some k
theorem apart_kept {a b : Value} (h : Apart a b) : a.ownBlock = none ∨ a.ownBlock ≠ b.ownBlock := by
  cases ha : a.ownBlock with
  | none => exact .inl rfl
  | some k => exact .inr (fun e => h k ha e.symm)
theorem apart_symm {a b : Value} (h : Apart a b) : Apart b a := fun k hb ha => h k ha hb
/-- an append to a leaves b apart -/
theorem apart_next {a b a' : Value} {N : Nat} (h : Apart a b) (hat : a'.ownBlock = a.ownBlock ∨ a'.ownBlock = some N) (hb : ∀ k, b.ownBlock = some k → k < N) : Apart a' b := by
  intro k ha hbk
  rcases hat with e | e
  · exact h k (e.symm.trans ha) hbk
  · rw [e] at ha
    injection ha with ha
    have := hb k hbk
    omega
theorem vi_snoc (zs : List Int) (x : Int) : vi (zs ++ [x]) = vi zs ++ [.int .i64 x] := by simp [vi]

section
variable {g q n u p m h : Nat} {w : World}

def RLists (w : World) (us ps : List Int) (e : Ending) (w' : World) : Prop :=
  ∃ (A1 A2 : Option Addr) (c1 c2 : Nat), e = .returned (.tuple #[.slice A1 us.length c1, .slice A2 ps.length c2]) ∧ Reads w' w'.heap.size 1 A1 us.length (vi us) ∧ Reads w' w'.heap.size 1 A2 ps.length (vi ps) ∧ Below w.heap.size w w'

set_option maxHeartbeats 2000000 in
theorem rlists_any (r : RRing w g q n u p m h) : Calls Try.prog 17 #[.pointer (some ⟨g, 0, none⟩)] w (RLists w (mem u n) (mem p n)) := by
  obtain ⟨i0, hi0, hz0, hz1, hz2⟩ := info_parts int_info
  have HI := Lib.hid hi0
  have HZ0 := Lib.hid hz0
  have HZ1 := Lib.hid hz1
  have HZ2 := Lib.hid hz2
  have HR := Lib.hid r
  have c0 := r.l_
  have h64 := r.n64
  have hgl := r.hd.lt
  have hql := r.pl.lt
  clear hi0 hz0 hz1 hz2 r
  go_enter Try.func17, Try.ntmps17
  go_wp2
  go_loopw [4, 5, 6] (fun va vb i wr => ∃ k : Nat, k ≤ n ∧ i = .int .i64 k ∧ wr.ownsRow w.heap.size 3 1 va (mem u k).length (vi (mem u k)) ∧ wr.ownsRow w.heap.size 3 1 vb (mem p k).length (vi (mem p k)) ∧ Apart va vb ∧ Below w.heap.size w wr) (fun _ _ i _ => n - (intOf i).toNat)
  case atStart => exact ⟨0, Nat.zero_le _, rfl, ⟨by simp [vi, mem], .inl ⟨rfl, rfl⟩⟩, ⟨by simp [vi, mem], .inl ⟨rfl, rfl⟩⟩, (fun k h => by cases h), Below.refl _ _⟩
  case round =>
    obtain ⟨k, hk, rfl, hA, hB, hap, hbel⟩ := hrel
    clear c0
    have r1 := HR.out.below hbel hgl hql
    have c0 := r1.l_
    have hml := mem_len u k
    have hmp := mem_len p k
    have HU := Lib.hid (mem_succ u k)
    have HP := Lib.hid (mem_succ p k)
    have HAP := Lib.hid hap
    have HBL := hide hbel
    have hsz := hbel.size
    clear hap
    by_cases hlt : k < n
    · have cu := r1.u_ hlt
      have cp := r1.p_ hlt
      clear r1
      cases hu : u.testBit k
      · rw [hu] at cu
        have HUB := Lib.hid hu
        cases hp : p.testBit k
        · rw [hp] at cp
          have HPB := Lib.hid hp
          clear hu hp
          go_wp2
          have eu : mem u (k + 1) = mem u k := by rw [HU.out, HUB.out]; rfl
          have ep : mem p (k + 1) = mem p k := by rw [HP.out, HPB.out]; rfl
          have HEU := Lib.hid eu
          have HEP := Lib.hid ep
          clear eu ep
          go_roundw
          case rel => exact ⟨k + 1, by omega, by go_num, by rw [HEU.out]; exact hA, by rw [HEP.out]; exact hB, HAP.out, unhide HBL⟩
          case measure => simp [intOf]; omega
        · rw [hp] at cp
          have HPB := Lib.hid hp
          clear hu hp
          go_wp2_with (first
            | (at_builtin
               refine wpList_append_any _ rfl (.tmp 36) (.tmp 38) _ rfl w.heap.size 3 i0 _ 1 8 Try.underlying32 HI.out HZ0.out HZ1.out HZ2.out rfl (by omega) u5 _ _ rfl
                 (hB.alloc _) (wr.heap.size + 1) _ 1 _ [.int .i64 k] rfl (reads_one wr _ _) (by simp [Value.oneCell']) (by simp only [maxLen]; omega) (by omega) (by simp; omega) ?_
               intro v3 w3 hown3 hg3 hat3))
          have eu : mem u (k + 1) = mem u k := by rw [HU.out, HUB.out]; rfl
          have ep : mem p (k + 1) = mem p k ++ [(k : Int)] := by rw [HP.out, HPB.out]; rfl
          have HEU := Lib.hid eu
          have HEP := Lib.hid ep
          have hA3 := (hA.alloc (.cells #[.int .i64 k] 3)).kept hg3 (apart_kept HAP.out)
          have hap3 : Apart u4 v3 := apart_symm (apart_next (apart_symm HAP.out) hat3 (fun j hj => by have := (hA.lt j hj).2; simp; omega))
          have hb3 := ((unhide HBL).alloc hsz _).grown hg3 (by simp; omega) (fun j hj => (hB.lt j hj).1)
          have HA3 := Lib.hid hA3
          have HAP3 := Lib.hid hap3
          clear eu ep hA3 hap3
          go_roundw
          case rel => exact ⟨k + 1, by omega, by go_num, by rw [HEU.out]; exact HA3.out, by rw [HEP.out, vi_snoc, List.length_append]; exact hown3, HAP3.out, hb3⟩
          case measure => simp [intOf]; omega
      · rw [hu] at cu
        have HUB := Lib.hid hu
        cases hp : p.testBit k
        · rw [hp] at cp
          have HPB := Lib.hid hp
          clear hu hp
          go_wp2_with (first
            | (at_builtin
               refine wpList_append_any _ rfl (.tmp 24) (.tmp 26) _ rfl w.heap.size 3 i0 _ 1 8 Try.underlying32 HI.out HZ0.out HZ1.out HZ2.out rfl (by omega) u4 _ _ rfl
                 (hA.alloc _) (wr.heap.size + 1) _ 1 _ [.int .i64 k] rfl (reads_one wr _ _) (by simp [Value.oneCell']) (by simp only [maxLen]; omega) (by omega) (by simp; omega) ?_
               intro v3 w3 hown3 hg3 hat3
               have hb3 := ((unhide HBL).alloc hsz _).grown hg3 (by simp; omega) (fun j hj => (hA.lt j hj).1)
               have r3 := HR.out.below hb3 hgl hql
               have c03 := r3.l_
               have cp3 := r3.p_ hlt
               rw [HPB.out] at cp3))
          have eu : mem u (k + 1) = mem u k ++ [(k : Int)] := by rw [HU.out, HUB.out]; rfl
          have ep : mem p (k + 1) = mem p k := by rw [HP.out, HPB.out]; rfl
          have HEU := Lib.hid eu
          have HEP := Lib.hid ep
          have hB3 := (hB.alloc (.cells #[.int .i64 k] 3)).kept hg3 (apart_kept (apart_symm HAP.out))
          have hap3 : Apart v3 u5 := apart_next HAP.out hat3 (fun j hj => by have := (hB.lt j hj).2; simp; omega)
          have HB3 := Lib.hid hB3
          have HAP3 := Lib.hid hap3
          clear eu ep hB3 hap3
          go_roundw
          case rel => exact ⟨k + 1, by omega, by go_num, by rw [HEU.out, vi_snoc, List.length_append]; exact hown3, by rw [HEP.out]; exact HB3.out, HAP3.out, hb3⟩
          case measure => simp [intOf]; omega
        · rw [hp] at cp
          have HPB := Lib.hid hp
          clear hu hp
          go_wp2_with (first
            | (at_builtin
               refine wpList_append_any _ rfl (.tmp 24) (.tmp 26) _ rfl w.heap.size 3 i0 _ 1 8 Try.underlying32 HI.out HZ0.out HZ1.out HZ2.out rfl (by omega) u4 _ _ rfl
                 (hA.alloc _) (wr.heap.size + 1) _ 1 _ [.int .i64 k] rfl (reads_one wr _ _) (by simp [Value.oneCell']) (by simp only [maxLen]; omega) (by omega) (by simp; omega) ?_
               intro v3 w3 hown3 hg3 hat3
               have hb3 := ((unhide HBL).alloc hsz _).grown hg3 (by simp; omega) (fun j hj => (hA.lt j hj).1)
               have r3 := HR.out.below hb3 hgl hql
               have c03 := r3.l_
               have cp3 := r3.p_ hlt
               rw [HPB.out] at cp3
               have hsz3 := hb3.size
               have hB3 := (hB.alloc (.cells #[.int .i64 k] 3)).kept hg3 (apart_kept (apart_symm HAP.out))
               have HAP3 : Hid (Apart v3 u5) := apart_next HAP.out hat3 (fun j hj => by have := (hB.lt j hj).2; simp; omega))
            | (at_builtin
               refine wpList_append_any _ rfl (.tmp 36) (.tmp 38) _ rfl w.heap.size 3 i0 _ 1 8 Try.underlying32 HI.out HZ0.out HZ1.out HZ2.out rfl (by omega) u5 _ _ rfl
                 (hB3.alloc _) (w3.heap.size + 1) _ 1 _ [.int .i64 k] rfl (reads_one w3 _ _) (by simp [Value.oneCell']) (by simp only [maxLen]; omega) (by omega) (by simp; omega) ?_
               intro v4 w4 hown4 hg4 hat4))
          have eu : mem u (k + 1) = mem u k ++ [(k : Int)] := by rw [HU.out, HUB.out]; rfl
          have ep : mem p (k + 1) = mem p k ++ [(k : Int)] := by rw [HP.out, HPB.out]; rfl
          have HEU := Lib.hid eu
          have HEP := Lib.hid ep
          have hA4 := (hown3.alloc (.cells #[.int .i64 k] 3)).kept hg4 (apart_kept HAP3.out)
          have hap4 : Apart v3 v4 := apart_symm (apart_next (apart_symm HAP3.out) hat4 (fun j hj => by have := (hown3.lt j hj).2; simp; omega))
          have hb4 := (hb3.alloc hsz3 _).grown hg4 (by simp; omega) (fun j hj => (hB3.lt j hj).1)
          have HA4 := Lib.hid hA4
          have HAP4 := Lib.hid hap4
          clear eu ep hA4 hap4
          go_roundw
          case rel => exact ⟨k + 1, by omega, by go_num, by rw [HEU.out, vi_snoc, List.length_append]; exact HA4.out, by rw [HEP.out, vi_snoc, List.length_append]; exact hown4, HAP4.out, hb4⟩
          case measure => simp [intOf]; omega
    · clear r1
      have HX : Hid (k = n) := show _ = _ by omega
      go_wp2
      go_ret2
      rw [HX.out] at hA hB
      obtain ⟨A1, c1, e1, q1⟩ := own_form hA
      obtain ⟨A2, c2, e2, q2⟩ := own_form hB
      exact ⟨A1, A2, c1, c2, by show Ending.returned (.tuple #[u4, u5]) = _; rw [e1, e2], q1, q2, unhide HBL⟩
end

end Go.Proofs.Ytoiabaienhchjaa
