/- The document's Do: it answers and does what the clock's calls answer and do. -/
import Derived.Test.YtoiabaienhchjaaU
namespace Go.Proofs.Ytoiabaienhchjaa
open Go.RowKit
set_option linter.unusedVariables false

theorem zero60 (w : World) : (zeroValue 60).run Try.prog w = .ok (.agg #[.bool false, .bool false, .bool false]) w := by kernel_rfl
/-- one place of the document's ring is written anew -/
theorem RRing.store {w W : World} {g q n u p m h k : Nat} (r : RRing W g q n u p m h) (hg : w.grownBy W (some q)) (hk : k < n) (x y z : Bool) :
    RRing (((W.setCell ⟨q, k * 3, none⟩ (.bool x)).setCell ⟨q, k * 3 + 1, none⟩ (.bool y)).setCell ⟨q, k * 3 + 2, none⟩ (.bool z)).drew g q n (put u k x) (put p k y) (put m k z) h ∧
    w.grownBy (((W.setCell ⟨q, k * 3, none⟩ (.bool x)).setCell ⟨q, k * 3 + 1, none⟩ (.bool y)).setCell ⟨q, k * 3 + 2, none⟩ (.bool z)).drew (some q) := by
  have h64 : k < 64 := Nat.lt_of_lt_of_le hk r.n64
  have hp := ((r.pl.set_ (k * 3) (.bool x)).set_ (k * 3 + 1) (.bool y)).set_ (k * 3 + 2) (.bool z)
  rw [plc_put n u p m k x y z r.ul r.pl' r.ml hk h64] at hp
  refine ⟨⟨((r.hd.far (p := ⟨q, k * 3, none⟩) r.ne _).far (p := ⟨q, k * 3 + 1, none⟩) r.ne _).far (p := ⟨q, k * 3 + 2, none⟩) r.ne _, hp, r.n64, r.hn, put_lt _ _ _ r.ul h64, put_lt _ _ _ r.pl' h64, put_lt _ _ _ r.ml h64⟩, ?_⟩
  exact only_drew (only_setCell (only_setCell (only_setCell hg (.inl rfl) _) (.inl rfl) _) (.inl rfl) _)

def RDoPost (w : World) (g q n u p m h : Nat) (kind i : Int) (e : Ending) (w' : World) : Prop :=
  e = .returned (.int .i64 (doR n u p m kind i).1) ∧ RRing w' g q n (doR n u p m kind i).2.1 (doR n u p m kind i).2.2.1 (doR n u p m kind i).2.2.2 h ∧ w.grownBy w' (some q)

section
variable {g q n u p m h k : Nat} {w : World}
set_option maxHeartbeats 1000000 in
theorem rdo0 (r : RRing w g q n u p m h) (hk : k < n)  :
    Calls Try.prog 15 #[.pointer (some ⟨g, 0, none⟩), .int .i64 0, .int .i64 (k : Int)] w fun e w' => e = .returned (.int .i64 0) ∧ RRing w' g q n (put u k true) (put p k false) (put m k true) h ∧ w.grownBy w' (some q) := by
  have HR := Lib.hid r
  have c0 := r.l_
  have cu := r.u_ hk
  have cp := r.p_ hk
  have cm := r.m_ hk
  have h64 := r.n64
  have hz := zero60
  clear r
  go_enter Try.func15, Try.ntmps15
  go_wp2
  have b7 := Blk.new w 60 #[.bool true, .bool false, .bool true]
  have gW : w.grownBy (w.alloc (.cells #[.bool true, .bool false, .bool true] 60)) (some q) := only_alloc (World.grownBy.refl _ _) _
  have rW : RRing (w.alloc (.cells #[.bool true, .bool false, .bool true] 60)) g q n u p m h := ⟨HR.out.hd.alloc _, HR.out.pl.alloc _, HR.out.n64, HR.out.hn, HR.out.ul, HR.out.pl', HR.out.ml⟩
  clear c0 cu cp cm
  generalize w.alloc (.cells #[.bool true, .bool false, .bool true] 60) = W at *
  generalize w.heap.size = B at *
  have RES := Lib.hid (RRing.store rW gW hk true false true)
  have c0 := rW.l_
  have fu := rW.pl.frozen (k * 3)
  have fp := rW.pl.frozen (k * 3 + 1)
  have fm := rW.pl.frozen (k * 3 + 2)
  have cu := rW.u_ hk
  have cp := rW.p_ hk
  have cm := rW.m_ hk
  have t0 := b7.cell 0
  have t1 := b7.cell 1
  have t2 := b7.cell 2
  clear b7 rW gW
  go_region
  go_wp2
  go_ret
  exact ⟨rfl, RES.out.1, RES.out.2⟩
set_option maxHeartbeats 1000000 in
theorem rdo1 (r : RRing w g q n u p m h) (hk : k < n)  :
    Calls Try.prog 15 #[.pointer (some ⟨g, 0, none⟩), .int .i64 1, .int .i64 (k : Int)] w fun e w' => e = .returned (.int .i64 0) ∧ RRing w' g q n (put u k false) (put p k false) (put m k false) h ∧ w.grownBy w' (some q) := by
  have HR := Lib.hid r
  have c0 := r.l_
  have cu := r.u_ hk
  have cp := r.p_ hk
  have cm := r.m_ hk
  have h64 := r.n64
  have hz := zero60
  clear r
  go_enter Try.func15, Try.ntmps15
  go_wp2
  have b7 := Blk.new w 60 #[.bool false, .bool false, .bool false]
  have gW : w.grownBy (w.alloc (.cells #[.bool false, .bool false, .bool false] 60)) (some q) := only_alloc (World.grownBy.refl _ _) _
  have rW : RRing (w.alloc (.cells #[.bool false, .bool false, .bool false] 60)) g q n u p m h := ⟨HR.out.hd.alloc _, HR.out.pl.alloc _, HR.out.n64, HR.out.hn, HR.out.ul, HR.out.pl', HR.out.ml⟩
  clear c0 cu cp cm
  generalize w.alloc (.cells #[.bool false, .bool false, .bool false] 60) = W at *
  generalize w.heap.size = B at *
  have RES := Lib.hid (RRing.store rW gW hk false false false)
  have c0 := rW.l_
  have fu := rW.pl.frozen (k * 3)
  have fp := rW.pl.frozen (k * 3 + 1)
  have fm := rW.pl.frozen (k * 3 + 2)
  have cu := rW.u_ hk
  have cp := rW.p_ hk
  have cm := rW.m_ hk
  have t0 := b7.cell 0
  have t1 := b7.cell 1
  have t2 := b7.cell 2
  clear b7 rW gW
  go_region
  go_wp2
  go_ret
  exact ⟨rfl, RES.out.1, RES.out.2⟩
set_option maxHeartbeats 1000000 in
theorem rdo2_f_f (r : RRing w g q n u p m h) (hk : k < n) (hu : u.testBit k = true) (hp : p.testBit k = false) (hm : m.testBit k = false) :
    Calls Try.prog 15 #[.pointer (some ⟨g, 0, none⟩), .int .i64 2, .int .i64 (k : Int)] w fun e w' => e = .returned (.int .i64 0) ∧ RRing w' g q n (put u k true) (put p k false) (put m k true) h ∧ w.grownBy w' (some q) := by
  have HR := Lib.hid r
  have c0 := r.l_
  have cu := r.u_ hk
  have cp := r.p_ hk
  have cm := r.m_ hk
  have h64 := r.n64
  have hz := zero60
  rw [hu] at cu
  rw [hp] at cp
  rw [hm] at cm
  have HU := Lib.hid hu
  have HP := Lib.hid hp
  have HM := Lib.hid hm
  clear hu hp hm
  clear r
  go_enter Try.func15, Try.ntmps15
  go_wp2
  have b7 := Blk.new w 60 #[.bool true, .bool false, .bool true]
  have gW : w.grownBy (w.alloc (.cells #[.bool true, .bool false, .bool true] 60)) (some q) := only_alloc (World.grownBy.refl _ _) _
  have rW : RRing (w.alloc (.cells #[.bool true, .bool false, .bool true] 60)) g q n u p m h := ⟨HR.out.hd.alloc _, HR.out.pl.alloc _, HR.out.n64, HR.out.hn, HR.out.ul, HR.out.pl', HR.out.ml⟩
  clear c0 cu cp cm
  generalize w.alloc (.cells #[.bool true, .bool false, .bool true] 60) = W at *
  generalize w.heap.size = B at *
  have RES := Lib.hid (RRing.store rW gW hk true false true)
  have c0 := rW.l_
  have fu := rW.pl.frozen (k * 3)
  have fp := rW.pl.frozen (k * 3 + 1)
  have fm := rW.pl.frozen (k * 3 + 2)
  have cu := rW.u_ hk
  have cp := rW.p_ hk
  have cm := rW.m_ hk
  have t0 := b7.cell 0
  have t1 := b7.cell 1
  have t2 := b7.cell 2
  clear b7 rW gW
  go_region
  go_wp2
  go_ret
  exact ⟨rfl, RES.out.1, RES.out.2⟩
set_option maxHeartbeats 1000000 in
theorem rdo2_f_t (r : RRing w g q n u p m h) (hk : k < n) (hu : u.testBit k = true) (hp : p.testBit k = false) (hm : m.testBit k = true) :
    Calls Try.prog 15 #[.pointer (some ⟨g, 0, none⟩), .int .i64 2, .int .i64 (k : Int)] w fun e w' => e = .returned (.int .i64 0) ∧ RRing w' g q n (put u k true) (put p k false) (put m k true) h ∧ w.grownBy w' (some q) := by
  have HR := Lib.hid r
  have c0 := r.l_
  have cu := r.u_ hk
  have cp := r.p_ hk
  have cm := r.m_ hk
  have h64 := r.n64
  have hz := zero60
  rw [hu] at cu
  rw [hp] at cp
  rw [hm] at cm
  have HU := Lib.hid hu
  have HP := Lib.hid hp
  have HM := Lib.hid hm
  clear hu hp hm
  clear r
  go_enter Try.func15, Try.ntmps15
  go_wp2
  have b7 := Blk.new w 60 #[.bool true, .bool false, .bool true]
  have gW : w.grownBy (w.alloc (.cells #[.bool true, .bool false, .bool true] 60)) (some q) := only_alloc (World.grownBy.refl _ _) _
  have rW : RRing (w.alloc (.cells #[.bool true, .bool false, .bool true] 60)) g q n u p m h := ⟨HR.out.hd.alloc _, HR.out.pl.alloc _, HR.out.n64, HR.out.hn, HR.out.ul, HR.out.pl', HR.out.ml⟩
  clear c0 cu cp cm
  generalize w.alloc (.cells #[.bool true, .bool false, .bool true] 60) = W at *
  generalize w.heap.size = B at *
  have RES := Lib.hid (RRing.store rW gW hk true false true)
  have c0 := rW.l_
  have fu := rW.pl.frozen (k * 3)
  have fp := rW.pl.frozen (k * 3 + 1)
  have fm := rW.pl.frozen (k * 3 + 2)
  have cu := rW.u_ hk
  have cp := rW.p_ hk
  have cm := rW.m_ hk
  have t0 := b7.cell 0
  have t1 := b7.cell 1
  have t2 := b7.cell 2
  clear b7 rW gW
  go_region
  go_wp2
  go_ret
  exact ⟨rfl, RES.out.1, RES.out.2⟩
set_option maxHeartbeats 1000000 in
theorem rdo2_t_f (r : RRing w g q n u p m h) (hk : k < n) (hu : u.testBit k = true) (hp : p.testBit k = true) (hm : m.testBit k = false) :
    Calls Try.prog 15 #[.pointer (some ⟨g, 0, none⟩), .int .i64 2, .int .i64 (k : Int)] w fun e w' => e = .returned (.int .i64 0) ∧ RRing w' g q n (put u k true) (put p k true) (put m k true) h ∧ w.grownBy w' (some q) := by
  have HR := Lib.hid r
  have c0 := r.l_
  have cu := r.u_ hk
  have cp := r.p_ hk
  have cm := r.m_ hk
  have h64 := r.n64
  have hz := zero60
  rw [hu] at cu
  rw [hp] at cp
  rw [hm] at cm
  have HU := Lib.hid hu
  have HP := Lib.hid hp
  have HM := Lib.hid hm
  clear hu hp hm
  clear r
  go_enter Try.func15, Try.ntmps15
  go_wp2
  have b7 := Blk.new w 60 #[.bool true, .bool true, .bool true]
  have gW : w.grownBy (w.alloc (.cells #[.bool true, .bool true, .bool true] 60)) (some q) := only_alloc (World.grownBy.refl _ _) _
  have rW : RRing (w.alloc (.cells #[.bool true, .bool true, .bool true] 60)) g q n u p m h := ⟨HR.out.hd.alloc _, HR.out.pl.alloc _, HR.out.n64, HR.out.hn, HR.out.ul, HR.out.pl', HR.out.ml⟩
  clear c0 cu cp cm
  generalize w.alloc (.cells #[.bool true, .bool true, .bool true] 60) = W at *
  generalize w.heap.size = B at *
  have RES := Lib.hid (RRing.store rW gW hk true true true)
  have c0 := rW.l_
  have fu := rW.pl.frozen (k * 3)
  have fp := rW.pl.frozen (k * 3 + 1)
  have fm := rW.pl.frozen (k * 3 + 2)
  have cu := rW.u_ hk
  have cp := rW.p_ hk
  have cm := rW.m_ hk
  have t0 := b7.cell 0
  have t1 := b7.cell 1
  have t2 := b7.cell 2
  clear b7 rW gW
  go_region
  go_wp2
  go_ret
  exact ⟨rfl, RES.out.1, RES.out.2⟩
set_option maxHeartbeats 1000000 in
theorem rdo2_t_t (r : RRing w g q n u p m h) (hk : k < n) (hu : u.testBit k = true) (hp : p.testBit k = true) (hm : m.testBit k = true) :
    Calls Try.prog 15 #[.pointer (some ⟨g, 0, none⟩), .int .i64 2, .int .i64 (k : Int)] w fun e w' => e = .returned (.int .i64 0) ∧ RRing w' g q n (put u k true) (put p k true) (put m k true) h ∧ w.grownBy w' (some q) := by
  have HR := Lib.hid r
  have c0 := r.l_
  have cu := r.u_ hk
  have cp := r.p_ hk
  have cm := r.m_ hk
  have h64 := r.n64
  have hz := zero60
  rw [hu] at cu
  rw [hp] at cp
  rw [hm] at cm
  have HU := Lib.hid hu
  have HP := Lib.hid hp
  have HM := Lib.hid hm
  clear hu hp hm
  clear r
  go_enter Try.func15, Try.ntmps15
  go_wp2
  have b7 := Blk.new w 60 #[.bool true, .bool true, .bool true]
  have gW : w.grownBy (w.alloc (.cells #[.bool true, .bool true, .bool true] 60)) (some q) := only_alloc (World.grownBy.refl _ _) _
  have rW : RRing (w.alloc (.cells #[.bool true, .bool true, .bool true] 60)) g q n u p m h := ⟨HR.out.hd.alloc _, HR.out.pl.alloc _, HR.out.n64, HR.out.hn, HR.out.ul, HR.out.pl', HR.out.ml⟩
  clear c0 cu cp cm
  generalize w.alloc (.cells #[.bool true, .bool true, .bool true] 60) = W at *
  generalize w.heap.size = B at *
  have RES := Lib.hid (RRing.store rW gW hk true true true)
  have c0 := rW.l_
  have fu := rW.pl.frozen (k * 3)
  have fp := rW.pl.frozen (k * 3 + 1)
  have fm := rW.pl.frozen (k * 3 + 2)
  have cu := rW.u_ hk
  have cp := rW.p_ hk
  have cm := rW.m_ hk
  have t0 := b7.cell 0
  have t1 := b7.cell 1
  have t2 := b7.cell 2
  clear b7 rW gW
  go_region
  go_wp2
  go_ret
  exact ⟨rfl, RES.out.1, RES.out.2⟩
set_option maxHeartbeats 1000000 in
theorem rdo3_f_f (r : RRing w g q n u p m h) (hk : k < n) (hu : u.testBit k = true) (hp : p.testBit k = false) (hm : m.testBit k = false) :
    Calls Try.prog 15 #[.pointer (some ⟨g, 0, none⟩), .int .i64 3, .int .i64 (k : Int)] w fun e w' => e = .returned (.int .i64 0) ∧ RRing w' g q n (put u k true) (put p k true) (put m k false) h ∧ w.grownBy w' (some q) := by
  have HR := Lib.hid r
  have c0 := r.l_
  have cu := r.u_ hk
  have cp := r.p_ hk
  have cm := r.m_ hk
  have h64 := r.n64
  have hz := zero60
  rw [hu] at cu
  rw [hp] at cp
  rw [hm] at cm
  have HU := Lib.hid hu
  have HP := Lib.hid hp
  have HM := Lib.hid hm
  clear hu hp hm
  clear r
  go_enter Try.func15, Try.ntmps15
  go_wp2
  have b7 := Blk.new w 60 #[.bool true, .bool true, .bool false]
  have gW : w.grownBy (w.alloc (.cells #[.bool true, .bool true, .bool false] 60)) (some q) := only_alloc (World.grownBy.refl _ _) _
  have rW : RRing (w.alloc (.cells #[.bool true, .bool true, .bool false] 60)) g q n u p m h := ⟨HR.out.hd.alloc _, HR.out.pl.alloc _, HR.out.n64, HR.out.hn, HR.out.ul, HR.out.pl', HR.out.ml⟩
  clear c0 cu cp cm
  generalize w.alloc (.cells #[.bool true, .bool true, .bool false] 60) = W at *
  generalize w.heap.size = B at *
  have RES := Lib.hid (RRing.store rW gW hk true true false)
  have c0 := rW.l_
  have fu := rW.pl.frozen (k * 3)
  have fp := rW.pl.frozen (k * 3 + 1)
  have fm := rW.pl.frozen (k * 3 + 2)
  have cu := rW.u_ hk
  have cp := rW.p_ hk
  have cm := rW.m_ hk
  have t0 := b7.cell 0
  have t1 := b7.cell 1
  have t2 := b7.cell 2
  clear b7 rW gW
  go_region
  go_wp2
  go_ret
  exact ⟨rfl, RES.out.1, RES.out.2⟩
set_option maxHeartbeats 1000000 in
theorem rdo3_f_t (r : RRing w g q n u p m h) (hk : k < n) (hu : u.testBit k = true) (hp : p.testBit k = false) (hm : m.testBit k = true) :
    Calls Try.prog 15 #[.pointer (some ⟨g, 0, none⟩), .int .i64 3, .int .i64 (k : Int)] w fun e w' => e = .returned (.int .i64 0) ∧ RRing w' g q n (put u k true) (put p k true) (put m k true) h ∧ w.grownBy w' (some q) := by
  have HR := Lib.hid r
  have c0 := r.l_
  have cu := r.u_ hk
  have cp := r.p_ hk
  have cm := r.m_ hk
  have h64 := r.n64
  have hz := zero60
  rw [hu] at cu
  rw [hp] at cp
  rw [hm] at cm
  have HU := Lib.hid hu
  have HP := Lib.hid hp
  have HM := Lib.hid hm
  clear hu hp hm
  clear r
  go_enter Try.func15, Try.ntmps15
  go_wp2
  have b7 := Blk.new w 60 #[.bool true, .bool true, .bool true]
  have gW : w.grownBy (w.alloc (.cells #[.bool true, .bool true, .bool true] 60)) (some q) := only_alloc (World.grownBy.refl _ _) _
  have rW : RRing (w.alloc (.cells #[.bool true, .bool true, .bool true] 60)) g q n u p m h := ⟨HR.out.hd.alloc _, HR.out.pl.alloc _, HR.out.n64, HR.out.hn, HR.out.ul, HR.out.pl', HR.out.ml⟩
  clear c0 cu cp cm
  generalize w.alloc (.cells #[.bool true, .bool true, .bool true] 60) = W at *
  generalize w.heap.size = B at *
  have RES := Lib.hid (RRing.store rW gW hk true true true)
  have c0 := rW.l_
  have fu := rW.pl.frozen (k * 3)
  have fp := rW.pl.frozen (k * 3 + 1)
  have fm := rW.pl.frozen (k * 3 + 2)
  have cu := rW.u_ hk
  have cp := rW.p_ hk
  have cm := rW.m_ hk
  have t0 := b7.cell 0
  have t1 := b7.cell 1
  have t2 := b7.cell 2
  clear b7 rW gW
  go_region
  go_wp2
  go_ret
  exact ⟨rfl, RES.out.1, RES.out.2⟩
set_option maxHeartbeats 1000000 in
theorem rdo3_t_f (r : RRing w g q n u p m h) (hk : k < n) (hu : u.testBit k = true) (hp : p.testBit k = true) (hm : m.testBit k = false) :
    Calls Try.prog 15 #[.pointer (some ⟨g, 0, none⟩), .int .i64 3, .int .i64 (k : Int)] w fun e w' => e = .returned (.int .i64 0) ∧ RRing w' g q n (put u k true) (put p k true) (put m k false) h ∧ w.grownBy w' (some q) := by
  have HR := Lib.hid r
  have c0 := r.l_
  have cu := r.u_ hk
  have cp := r.p_ hk
  have cm := r.m_ hk
  have h64 := r.n64
  have hz := zero60
  rw [hu] at cu
  rw [hp] at cp
  rw [hm] at cm
  have HU := Lib.hid hu
  have HP := Lib.hid hp
  have HM := Lib.hid hm
  clear hu hp hm
  clear r
  go_enter Try.func15, Try.ntmps15
  go_wp2
  have b7 := Blk.new w 60 #[.bool true, .bool true, .bool false]
  have gW : w.grownBy (w.alloc (.cells #[.bool true, .bool true, .bool false] 60)) (some q) := only_alloc (World.grownBy.refl _ _) _
  have rW : RRing (w.alloc (.cells #[.bool true, .bool true, .bool false] 60)) g q n u p m h := ⟨HR.out.hd.alloc _, HR.out.pl.alloc _, HR.out.n64, HR.out.hn, HR.out.ul, HR.out.pl', HR.out.ml⟩
  clear c0 cu cp cm
  generalize w.alloc (.cells #[.bool true, .bool true, .bool false] 60) = W at *
  generalize w.heap.size = B at *
  have RES := Lib.hid (RRing.store rW gW hk true true false)
  have c0 := rW.l_
  have fu := rW.pl.frozen (k * 3)
  have fp := rW.pl.frozen (k * 3 + 1)
  have fm := rW.pl.frozen (k * 3 + 2)
  have cu := rW.u_ hk
  have cp := rW.p_ hk
  have cm := rW.m_ hk
  have t0 := b7.cell 0
  have t1 := b7.cell 1
  have t2 := b7.cell 2
  clear b7 rW gW
  go_region
  go_wp2
  go_ret
  exact ⟨rfl, RES.out.1, RES.out.2⟩
set_option maxHeartbeats 1000000 in
theorem rdo3_t_t (r : RRing w g q n u p m h) (hk : k < n) (hu : u.testBit k = true) (hp : p.testBit k = true) (hm : m.testBit k = true) :
    Calls Try.prog 15 #[.pointer (some ⟨g, 0, none⟩), .int .i64 3, .int .i64 (k : Int)] w fun e w' => e = .returned (.int .i64 0) ∧ RRing w' g q n (put u k true) (put p k true) (put m k true) h ∧ w.grownBy w' (some q) := by
  have HR := Lib.hid r
  have c0 := r.l_
  have cu := r.u_ hk
  have cp := r.p_ hk
  have cm := r.m_ hk
  have h64 := r.n64
  have hz := zero60
  rw [hu] at cu
  rw [hp] at cp
  rw [hm] at cm
  have HU := Lib.hid hu
  have HP := Lib.hid hp
  have HM := Lib.hid hm
  clear hu hp hm
  clear r
  go_enter Try.func15, Try.ntmps15
  go_wp2
  have b7 := Blk.new w 60 #[.bool true, .bool true, .bool true]
  have gW : w.grownBy (w.alloc (.cells #[.bool true, .bool true, .bool true] 60)) (some q) := only_alloc (World.grownBy.refl _ _) _
  have rW : RRing (w.alloc (.cells #[.bool true, .bool true, .bool true] 60)) g q n u p m h := ⟨HR.out.hd.alloc _, HR.out.pl.alloc _, HR.out.n64, HR.out.hn, HR.out.ul, HR.out.pl', HR.out.ml⟩
  clear c0 cu cp cm
  generalize w.alloc (.cells #[.bool true, .bool true, .bool true] 60) = W at *
  generalize w.heap.size = B at *
  have RES := Lib.hid (RRing.store rW gW hk true true true)
  have c0 := rW.l_
  have fu := rW.pl.frozen (k * 3)
  have fp := rW.pl.frozen (k * 3 + 1)
  have fm := rW.pl.frozen (k * 3 + 2)
  have cu := rW.u_ hk
  have cp := rW.p_ hk
  have cm := rW.m_ hk
  have t0 := b7.cell 0
  have t1 := b7.cell 1
  have t2 := b7.cell 2
  clear b7 rW gW
  go_region
  go_wp2
  go_ret
  exact ⟨rfl, RES.out.1, RES.out.2⟩
set_option maxHeartbeats 1000000 in
theorem rdo4 (r : RRing w g q n u p m h) (hk : k < n) {kd : Int} {x z : Bool} (hu : x = u.testBit k) (hm : z = m.testBit k) (b0 : (kd == 0) = false) (b1 : (kd == 1) = false) (b2 : (kd == 2) = false) (b3 : (kd == 3) = false) :
    Calls Try.prog 15 #[.pointer (some ⟨g, 0, none⟩), .int .i64 kd, .int .i64 (k : Int)] w fun e w' => e = .returned (.int .i64 0) ∧ RRing w' g q n (put u k x) (put p k false) (put m k z) h ∧ w.grownBy w' (some q) := by
  have HR := Lib.hid r
  have c0 := r.l_
  have cu := r.u_ hk
  have cp := r.p_ hk
  have cm := r.m_ hk
  have h64 := r.n64
  have hz := zero60
  rw [← hu] at cu
  rw [← hm] at cm
  have HU := Lib.hid hu
  have HM := Lib.hid hm
  clear hu hm
  clear r
  go_enter Try.func15, Try.ntmps15
  go_wp2
  have b7 := Blk.new w 60 #[.bool x, .bool false, .bool z]
  have gW : w.grownBy (w.alloc (.cells #[.bool x, .bool false, .bool z] 60)) (some q) := only_alloc (World.grownBy.refl _ _) _
  have rW : RRing (w.alloc (.cells #[.bool x, .bool false, .bool z] 60)) g q n u p m h := ⟨HR.out.hd.alloc _, HR.out.pl.alloc _, HR.out.n64, HR.out.hn, HR.out.ul, HR.out.pl', HR.out.ml⟩
  clear c0 cu cp cm
  generalize w.alloc (.cells #[.bool x, .bool false, .bool z] 60) = W at *
  generalize w.heap.size = B at *
  have RES := Lib.hid (RRing.store rW gW hk x false z)
  have c0 := rW.l_
  have fu := rW.pl.frozen (k * 3)
  have fp := rW.pl.frozen (k * 3 + 1)
  have fm := rW.pl.frozen (k * 3 + 2)
  have cu := rW.u_ hk
  have cp := rW.p_ hk
  have cm := rW.m_ hk
  have t0 := b7.cell 0
  have t1 := b7.cell 1
  have t2 := b7.cell 2
  clear b7 rW gW
  go_region
  go_wp2
  go_ret
  exact ⟨rfl, RES.out.1, RES.out.2⟩
theorem rdo2_none (r : RRing w g q n u p m h) (hk : k < n) (hu : u.testBit k = false) :
    Calls Try.prog 15 #[.pointer (some ⟨g, 0, none⟩), .int .i64 2, .int .i64 (k : Int)] w fun e w' => e = .returned (.int .i64 11) ∧ RRing w' g q n u p m h ∧ w.grownBy w' (some q) := by
  have HR := Lib.hid r
  have c0 := r.l_
  have cu := r.u_ hk
  rw [hu] at cu
  have cp := r.p_ hk
  have cm := r.m_ hk
  have h64 := r.n64
  have hz := zero60
  clear r hu
  go_enter Try.func15, Try.ntmps15
  go_wp2
  go_ret
  exact ⟨rfl, ⟨HR.out.hd.alloc _, HR.out.pl.alloc _, HR.out.n64, HR.out.hn, HR.out.ul, HR.out.pl', HR.out.ml⟩, only_alloc (World.grownBy.refl _ _) _⟩
theorem rdo3_none (r : RRing w g q n u p m h) (hk : k < n) (hu : u.testBit k = false) :
    Calls Try.prog 15 #[.pointer (some ⟨g, 0, none⟩), .int .i64 3, .int .i64 (k : Int)] w fun e w' => e = .returned (.int .i64 11) ∧ RRing w' g q n u p m h ∧ w.grownBy w' (some q) := by
  have HR := Lib.hid r
  have c0 := r.l_
  have cu := r.u_ hk
  rw [hu] at cu
  have cp := r.p_ hk
  have cm := r.m_ hk
  have h64 := r.n64
  have hz := zero60
  clear r hu
  go_enter Try.func15, Try.ntmps15
  go_wp2
  go_ret
  exact ⟨rfl, ⟨HR.out.hd.alloc _, HR.out.pl.alloc _, HR.out.n64, HR.out.hn, HR.out.ul, HR.out.pl', HR.out.ml⟩, only_alloc (World.grownBy.refl _ _) _⟩
theorem rdo_out (r : RRing w g q n u p m h) (kd i : Int) (hi : ¬ (0 ≤ i ∧ i < n)) :
    Calls Try.prog 15 #[.pointer (some ⟨g, 0, none⟩), .int .i64 kd, .int .i64 i] w fun e w' => e = .returned (.int .i64 2) ∧ w = w' := by
  have c0 := r.l_
  clear r
  by_cases h0 : i < 0
  · clear hi
    go_enter Try.func15, Try.ntmps15
    go_wp2
    go_ret
    exact ⟨rfl, rfl⟩
  · have h2 : (n : Int) ≤ i := by omega
    clear hi
    go_enter Try.func15, Try.ntmps15
    go_wp2
    go_ret
    exact ⟨rfl, rfl⟩

theorem rdo_any (r : RRing w g q n u p m h) (kind i : Int) : Calls Try.prog 15 #[.pointer (some ⟨g, 0, none⟩), .int .i64 kind, .int .i64 i] w (RDoPost w g q n u p m h kind i) := by
  unfold RDoPost
  by_cases hi : 0 ≤ i ∧ i < n
  · obtain ⟨h0, h1⟩ := hi
    obtain ⟨k, rfl⟩ := Int.eq_ofNat_of_zero_le h0
    have hk : k < n := by omega
    have h64 : k < 64 := Nat.lt_of_lt_of_le hk r.n64
    have hnot : ¬ ¬ (0 ≤ (k : Int) ∧ (k : Int) < n) := by omega
    have eu := put_same u k r.ul h64
    have ep := put_same p k r.pl' h64
    have em := put_same m k r.ml h64
    by_cases k0 : kind = 0
    · have e : doR n u p m kind k = (0, put u k true, put p k false, put m k true) := by unfold doR; rw [if_neg hnot, if_pos k0]; rfl
      rw [e]; subst k0
      exact rdo0 r hk
    · by_cases k1 : kind = 1
      · have e : doR n u p m kind k = (0, put u k false, put p k false, put m k false) := by unfold doR; rw [if_neg hnot, if_neg k0, if_pos k1]; rfl
        rw [e]; subst k1
        exact rdo1 r hk
      · by_cases k2 : kind = 2
        · by_cases hb : u.testBit k = true
          · have e : doR n u p m kind k = (0, u, p, put m k true) := by unfold doR; rw [if_neg hnot, if_neg k0, if_neg k1, if_pos k2]; exact if_pos hb
            rw [e]; subst k2
            rw [hb] at eu
            cases hp : p.testBit k <;> cases hm : m.testBit k <;> rw [hp] at ep
            · have t := rdo2_f_f r hk hb hp hm; rw [eu, ep] at t; exact t
            · have t := rdo2_f_t r hk hb hp hm; rw [eu, ep] at t; exact t
            · have t := rdo2_t_f r hk hb hp hm; rw [eu, ep] at t; exact t
            · have t := rdo2_t_t r hk hb hp hm; rw [eu, ep] at t; exact t
          · have e : doR n u p m kind k = (11, u, p, m) := by unfold doR; rw [if_neg hnot, if_neg k0, if_neg k1, if_pos k2]; exact if_neg hb
            rw [e]; subst k2
            exact rdo2_none r hk (eq_false_of_ne_true hb)
        · by_cases k3 : kind = 3
          · by_cases hb : u.testBit k = true
            · have e : doR n u p m kind k = (0, u, put p k true, m) := by unfold doR; rw [if_neg hnot, if_neg k0, if_neg k1, if_neg k2, if_pos k3]; exact if_pos hb
              rw [e]; subst k3
              rw [hb] at eu
              cases hp : p.testBit k <;> cases hm : m.testBit k <;> rw [hm] at em
              · have t := rdo3_f_f r hk hb hp hm; rw [eu, em] at t; exact t
              · have t := rdo3_f_t r hk hb hp hm; rw [eu, em] at t; exact t
              · have t := rdo3_t_f r hk hb hp hm; rw [eu, em] at t; exact t
              · have t := rdo3_t_t r hk hb hp hm; rw [eu, em] at t; exact t
            · have e : doR n u p m kind k = (11, u, p, m) := by unfold doR; rw [if_neg hnot, if_neg k0, if_neg k1, if_neg k2, if_pos k3]; exact if_neg hb
              rw [e]; subst k3
              exact rdo3_none r hk (eq_false_of_ne_true hb)
          · have e : doR n u p m kind k = (0, u, put p k false, m) := by unfold doR; rw [if_neg hnot, if_neg k0, if_neg k1, if_neg k2, if_neg k3]; rfl
            rw [e]
            have t := rdo4 r hk rfl rfl (beq_eq_false_iff_ne.2 k0) (beq_eq_false_iff_ne.2 k1) (beq_eq_false_iff_ne.2 k2) (beq_eq_false_iff_ne.2 k3)
            rw [eu, em] at t
            exact t
  · have e : doR n u p m kind i = (2, u, p, m) := by unfold doR; rw [if_pos hi]
    rw [e]
    refine (rdo_out r kind i hi).mono ?_
    rintro e' w' ⟨rfl, rfl⟩
    exact ⟨rfl, r, World.grownBy.refl _ _⟩
end

end Go.Proofs.Ytoiabaienhchjaa
