/- Contracts of fletch's small functions: of, take, whole. Conditions: the halves are below 65535, a byte is below 256. -/
import Derived.Test.YtdppneopfekddaaPlain
import Derived.WalkKit
import Derived.WalkSpells
import Derived.Outline
import Derived.Below
import Derived.Lib.Hide
namespace Go.Proofs.Ytdppneopfekddaa
open Go.RowKit
set_option linter.unusedVariables false

theorem of_any (s : Int) (h0 : 0 ≤ s) (h1 : s < 4294967296) (w : World) :
    Calls Try.prog 15 #[.int .u32 s] w fun e w' => e = .returned (.agg #[.int .u32 (st0 s).1, .int .u32 (st0 s).2]) ∧ w' = w.alloc (.cells #[.int .u32 (st0 s).1, .int .u32 (st0 s).2] 36) := by
  have e1 := and65535 s h0 h1
  have hh : 0 ≤ s % 65536 := by omega
  go_enter Try.func15, Try.ntmps15
  go_wp2
  exact bodyPost_ret (v := .agg #[.int .u32 (st0 s).1, .int .u32 (st0 s).2]) (by simp [results, Try.results15, go_sem, st0]) rfl ⟨rfl, rfl⟩

theorem take_any (p : Int × Int) (c : Int) (w : World) (hp : In p) (hc : 0 ≤ c) (hc' : c ≤ 255) :
    Calls Try.prog 16 #[.agg #[.int .u32 p.1, .int .u32 p.2], .int .u8 c] w fun e w' => e = .returned (.agg #[.int .u32 (stp p c).1, .int .u32 (stp p c).2]) ∧ Below w.heap.size w w' := by
  obtain ⟨a, b⟩ := p
  obtain ⟨⟨ha, ha'⟩, hb, hb'⟩ := hp
  simp only at ha ha' hb hb'
  have e1 : (b + (a + c)) % 65535 = (b + (a + c) % 65535) % 65535 := by omega
  have E1 := Lib.hid e1
  clear e1
  unfold stp
  go_enter Try.func16, Try.ntmps16
  go_wp2
  refine bodyPost_ret (v := .agg #[.int .u32 (stp (a, b) c).1, .int .u32 (stp (a, b) c).2]) (by simp [results, Try.results16, go_sem, stp]) rfl ⟨rfl, ?_⟩
  exact ((Below.refl _ _).alloc (Nat.le_refl _) _).alloc (by simp) _

theorem whole_any (p : Int × Int) (w : World) (hp : In p) :
    Calls Try.prog 17 #[.agg #[.int .u32 p.1, .int .u32 p.2]] w fun e w' => e = .returned (.int .u32 (wh p)) ∧ Below w.heap.size w w' := by
  obtain ⟨a, b⟩ := p
  obtain ⟨⟨ha, ha'⟩, hb, hb'⟩ := hp
  simp only at ha ha' hb hb'
  have e1 := or_add a b ha ha' hb hb'
  unfold wh
  go_enter Try.func17, Try.ntmps17
  go_wp2
  go_ret
  exact ⟨rfl, (Below.refl _ _).alloc (Nat.le_refl _) _⟩

end Go.Proofs.Ytdppneopfekddaa
