/- A message cut short: some message, its client as it was. Conditions: the message reads as data (IsM). -/
import Derived.Test.YtchddfodgibpjaaH
namespace Go.Proofs.Ytchddfodgibpjaa
open Go.RowKit
set_option linter.unusedVariables false

/-- what stands at the place k of the entries -/
structure Ent (w : World) (x o k : Nat) (s : ByteArray) (z1 z2 z3 : Int) : Prop where
  lt : x < w.heap.size
  c0 : w.cell? ⟨x, o + k * 4, none⟩ = some (.string s)
  ls : s.size ≤ maxLen
  c1 : w.cell? ⟨x, o + k * 4 + 1, none⟩ = some (.int .i64 z1)
  c2 : w.cell? ⟨x, o + k * 4 + 2, none⟩ = some (.int .i64 z2)
  c3 : w.cell? ⟨x, o + k * 4 + 3, none⟩ = some (.int .i64 z3)
theorem Ent.below {w w' : World} {B x o k : Nat} {s : ByteArray} {z1 z2 z3 : Int} (h : Ent w x o k s z1 z2 z3) (hb : Below B w w') (hB : x < B) : Ent w' x o k s z1 z2 z3 :=
  ⟨Nat.lt_of_lt_of_le h.lt hb.size, (hb.cell (p := ⟨x, o + k * 4, none⟩) hB).trans h.c0, h.ls, (hb.cell (p := ⟨x, o + k * 4 + 1, none⟩) hB).trans h.c1, (hb.cell (p := ⟨x, o + k * 4 + 2, none⟩) hB).trans h.c2, (hb.cell (p := ⟨x, o + k * 4 + 3, none⟩) hB).trans h.c3⟩
/-- the cells of a message that reads as data -/
structure IsM (w : World) (mc : Array Value) (c : Int) (s11 s12 s15 : ByteArray) (A : Option Addr) (len cap : Nat) : Prop where
  sz : mc.size = 18
  one : mc.all (·.oneCell') = true
  c1 : mc[1]? = some (.int .i64 c)
  c11 : mc[11]? = some (.string s11)
  c12 : mc[12]? = some (.string s12)
  c15 : mc[15]? = some (.string s15)
  l11 : s11.size ≤ maxLen
  l12 : s12.size ≤ maxLen
  l15 : s15.size ≤ maxLen
  c17 : mc[17]? = some (.slice A len cap)
  le : len ≤ maxLen
  ents : ∀ k, k < len → ∃ x o s z1 z2 z3, A = some ⟨x, o, none⟩ ∧ Ent w x o k s z1 z2 z3
theorem all_set {mc : Array Value} {i : Nat} {v : Value} (h : mc.all (·.oneCell') = true) (hv : v.oneCell' = true) : (mc.setIfInBounds i v).all (·.oneCell') = true := by
  rw [Array.all_eq_true_iff_forall_mem] at h ⊢
  intro x hx
  obtain ⟨j, hj, e⟩ := Array.mem_iff_getElem.1 hx
  rw [Array.getElem_setIfInBounds (by simpa using hj)] at e
  split at e
  · rw [← e]; exact hv
  · rw [← e]; exact h _ (Array.getElem_mem _)

/-- some message, its client as it was -/
def SomeMsg (w : World) (c : Int) (e : Ending) (w' : World) : Prop :=
  ∃ mc : Array Value, e = .returned (.agg mc) ∧ mc.size = 18 ∧ mc.all (·.oneCell') = true ∧ mc[1]? = some (.int .i64 c) ∧ Below w.heap.size w w'
theorem ent_info : (Try.prog.info? 51).map (fun i => (i.zero, i.size, i.bytes)) = some (some (.agg #[.string ⟨#[]⟩, .int .i64 0, .int .i64 0, .int .i64 0]), 4, 40) := by kernel_rfl
theorem reads_four (w : World) (a b c d : Value) (t : TypeId) : Reads (w.alloc (.cells #[a, b, c, d] t)) (w.heap.size + 1) 4 (some ⟨w.heap.size, 0, none⟩) 1 [a, b, c, d] := by
  have hb := Blk.new w t #[a, b, c, d]
  refine ⟨rfl, fun _ => ⟨_, rfl, by simp, fun j v hv => ?_⟩⟩
  rw [Addr.add_mid, Nat.zero_add]
  exact (hb.cell j).trans (by simpa using hv)
theorem reads_four2 (w : World) (o : Obj) (a b c d : Value) (t : TypeId) : Reads ((w.alloc o).alloc (.cells #[a, b, c, d] t)) (w.heap.size + 2) 4 (some ⟨w.heap.size + 1, 0, none⟩) 1 [a, b, c, d] := by
  have h := reads_four (w.alloc o) a b c d t
  have hs : (w.alloc o).heap.size = w.heap.size + 1 := by simp
  rw [hs] at h
  exact h
theorem own_slice {w : World} {base : Nat} {v : Value} {n : Nat} {xs : List Value} (h : w.ownsRow base 51 4 v n xs) : ∃ A c, v = .slice A n c := by
  rcases h.2 with ⟨rfl, rfl⟩ | ⟨g, cap, cur, rfl, _⟩
  · exact ⟨none, 0, rfl⟩
  · exact ⟨_, _, rfl⟩
theorem size33' {mc : Array Value} (h : mc.size = 18) : (Try.prog.info? 33).map (·.size) = some mc.size := by rw [size33, h]

theorem eta_act (n : Nat) (a : Act) (hs : a.tmps.size = n) (hd : a.defers = []) : a = ⟨((List.range n).map fun i => a.tmps.getD i undef).toArray, []⟩ := by
  obtain ⟨t, d⟩ := a
  subst hd
  congr 1
  apply Array.ext
  · simpa using hs
  · intro i h1 h2
    simp [Array.getD, h1]
/-- the first loop in a text, and what its round runs -/
def firstLoop : Code → Option Code
  | .loop c => some c
  | .seq a b => match firstLoop a with
    | some c => some c
    | none => firstLoop b
  | .block _ c => firstLoop c
  | .scope c => firstLoop c
  | .cond _ a b => match firstLoop a with
    | some c => some c
    | none => firstLoop b
  | _ => none
noncomputable def shBody : Code := ((Try.f10.body.bind firstLoop).getD .skip)
/-- which slots of the frame hold what -/
structure FrS (b k : Nat) (v : Value) (a : Act) : Prop where
  sz : a.tmps.size = 45
  df : a.defers = []
  s1 : a.tmps.getD 1 undef = .pointer (some ⟨b, 0, none⟩)
  s2 : a.tmps.getD 2 undef = .pointer (some ⟨b + 1, 0, none⟩)
  s3 : a.tmps.getD 3 undef = v
  s4 : a.tmps.getD 4 undef = .int .i64 (k : Int)
set_option maxRecDepth 100000 in
theorem FrS.cases {motive : Act → Prop} {b k : Nat} {v : Value} {a : Act} (h : FrS b k v a) (H : ∀ v0 v5 v6 v7 v8 v9 v10 v11 v12 v13 v14 v15 v16 v17 v18 v19 v20 v21 v22 v23 v24 v25 v26 v27 v28 v29 v30 v31 v32 v33 v34 v35 v36 v37 v38 v39 v40 v41 v42 v43 v44 : Value, motive ⟨(v0 :: .pointer (some ⟨b, 0, none⟩) :: .pointer (some ⟨b + 1, 0, none⟩) :: v :: .int .i64 (k : Int) :: v5 :: v6 :: v7 :: v8 :: v9 :: v10 :: v11 :: v12 :: v13 :: v14 :: v15 :: v16 :: v17 :: v18 :: v19 :: v20 :: v21 :: v22 :: v23 :: v24 :: v25 :: v26 :: v27 :: v28 :: v29 :: v30 :: v31 :: v32 :: v33 :: v34 :: v35 :: v36 :: v37 :: v38 :: v39 :: v40 :: v41 :: v42 :: v43 :: v44 :: []).toArray, []⟩) : motive a := by
  have e := eta_act 45 a h.sz h.df
  have H2 := H (a.tmps.getD 0 undef) (a.tmps.getD 5 undef) (a.tmps.getD 6 undef) (a.tmps.getD 7 undef) (a.tmps.getD 8 undef) (a.tmps.getD 9 undef) (a.tmps.getD 10 undef) (a.tmps.getD 11 undef) (a.tmps.getD 12 undef) (a.tmps.getD 13 undef) (a.tmps.getD 14 undef) (a.tmps.getD 15 undef) (a.tmps.getD 16 undef) (a.tmps.getD 17 undef) (a.tmps.getD 18 undef) (a.tmps.getD 19 undef) (a.tmps.getD 20 undef) (a.tmps.getD 21 undef) (a.tmps.getD 22 undef) (a.tmps.getD 23 undef) (a.tmps.getD 24 undef) (a.tmps.getD 25 undef) (a.tmps.getD 26 undef) (a.tmps.getD 27 undef) (a.tmps.getD 28 undef) (a.tmps.getD 29 undef) (a.tmps.getD 30 undef) (a.tmps.getD 31 undef) (a.tmps.getD 32 undef) (a.tmps.getD 33 undef) (a.tmps.getD 34 undef) (a.tmps.getD 35 undef) (a.tmps.getD 36 undef) (a.tmps.getD 37 undef) (a.tmps.getD 38 undef) (a.tmps.getD 39 undef) (a.tmps.getD 40 undef) (a.tmps.getD 41 undef) (a.tmps.getD 42 undef) (a.tmps.getD 43 undef) (a.tmps.getD 44 undef)
  rw [← h.s1, ← h.s2, ← h.s3, ← h.s4] at H2
  rw [e]
  exact H2

/-- what the loop of Short knows -/
structure Sh (w wr : World) (mc1 : Array Value) (k : Nat) (v : Value) : Prop where
  own : ∃ xs, wr.ownsRow (w.heap.size + 2) 51 4 v k xs
  b1 : Blk wr w.heap.size 33 mc1
  b2 : Blk wr (w.heap.size + 1) 33 zmsg.toArray
  bel : Below w.heap.size w wr
  le : w.heap.size + 2 ≤ wr.heap.size

section
variable {Q : Exit → Act → World → Prop} {a : Act} {w wr : World} {mc1 : Array Value} {x o k len cap : Nat} {s : ByteArray} {z1 z2 z3 : Int} {v : Value}
set_option maxRecDepth 1000000 in
set_option maxHeartbeats 2000000 in
theorem sh_round (hfr : FrS w.heap.size k v a) (hh : Sh w wr mc1 k v) (c17 : mc1[17]? = some (.slice (some ⟨x, o, none⟩) len cap)) (he : Ent w x o k s z1 z2 z3) (hk : k < len) (hk26 : k < 26) (hlen : len ≤ 9223372036854775807)
    (hnext : ∀ a' w' v', FrS w.heap.size (k + 1) v' a' → Sh w w' mc1 (k + 1) v' → Q .normal a' w') : Code.wp Try.prog shBody Q a wr := by
  have HN := hide hnext
  obtain ⟨xs, hown⟩ := hh.own
  obtain ⟨i0, hi0, hz0, hz1, hz2⟩ := info_parts ent_info
  have HI := Lib.hid hi0
  have HZ0 := Lib.hid hz0
  have HZ1 := Lib.hid hz1
  have HZ2 := Lib.hid hz2
  have he2 := he.below hh.bel he.lt
  have k17 : wr.cell? ⟨w.heap.size, 17, none⟩ = some (.slice (some ⟨x, o, none⟩) len cap) := (hh.b1.cell 17).trans c17
  have k0 := he2.c0
  have k1 := he2.c1
  have k2 := he2.c2
  have k3 := he2.c3
  have hls := he.ls
  have HH := Lib.hid hh
  have hle := hh.le
  clear hi0 hz0 hz1 hz2 he he2 hh hnext c17
  refine FrS.cases (motive := fun a => Code.wp Try.prog shBody Q a wr) hfr ?_
  clear hfr
  intros
  conv => arg 2; whnf
  go_wp2_with (first
    | (go_at_call 16; refine (short_str s 20 _ hls (by omega)).mono ?_; rintro e w' ⟨t, rfl, ht, rfl⟩)
    | (at_builtin
       refine wpList_append_any _ rfl (.tmp 38) (.tmp 40) _ rfl (w.heap.size + 2) 51 i0 _ 4 40 Try.underlying31 HI.out HZ0.out HZ1.out HZ2.out rfl (by omega) v k xs rfl
         ((hown.alloc _).alloc _) (wr.heap.size + 2) _ 1 _ [.string t, .int .i64 z1, .int .i64 z2, .int .i64 z3] rfl (reads_four2 wr _ _ _ _ _ _) (by simp [Value.oneCell']) (by simp only [maxLen]; omega) (by omega) (by simp; omega) ?_
       intro v3 w3 hown3 hg3 hat3))
  have hne : ∀ g, g < w.heap.size + 2 → some g ≠ v.ownBlock := fun g hg e => by have := (hown.lt g e.symm).1; omega
  have hb := ((HH.out.bel.alloc HH.out.bel.size (.cells #[.string t, .int .i64 z1, .int .i64 z2, .int .i64 z3] 51)).alloc (by simp; have := HH.out.bel.size; omega) (.cells #[.string t, .int .i64 z1, .int .i64 z2, .int .i64 z3] 51)).grown hg3 (by simp; have := HH.out.bel.size; omega) (fun g hg => by have := (hown.lt g hg).1; omega)
  exact (unhide HN) _ _ v3 ⟨rfl, rfl, rfl, rfl, rfl, by go_num⟩ ⟨⟨_, hown3⟩, ((HH.out.b1.alloc _).alloc _).grown hg3 (hne _ (by omega)), ((HH.out.b2.alloc _).alloc _).grown hg3 (hne _ (by omega)), hb, by have := hg3.size; simp at this; omega⟩
end

end Go.Proofs.Ytchddfodgibpjaa
