/- The plain law of drift: ticks that run alike, on lists of integers; no program in sight. -/
import Derived.Test.YtdgamdjfcamnlaaRows
namespace Go.Proofs.Ytdgamdjfcamnlaa

/-- how often x ticks behind the last tick of y: of the list backwards, and of the list -/
def sncR : List Int → Int → Int → Nat
  | [], _, _ => 0
  | t :: r, x, y => if t = y then 0 else sncR r x y + (if t = x then 1 else 0)
def snc (l : List Int) (x y : Int) : Nat := sncR l.reverse x y
theorem snc_nil (x y : Int) : snc [] x y = 0 := rfl
theorem snc_snoc (l : List Int) (t x y : Int) : snc (l ++ [t]) x y = if t = y then 0 else snc l x y + (if t = x then 1 else 0) := by
  simp [snc, sncR]
theorem snc_take (l : List Int) (k : Nat) (h : k < l.length) (x y : Int) : snc (l.take (k + 1)) x y = if l[k] = y then 0 else snc (l.take k) x y + (if l[k] = x then 1 else 0) := by
  rw [List.take_succ_eq_append_getElem h, snc_snoc]
theorem snc_le (l : List Int) (x y : Int) : snc l x y ≤ l.length := by
  unfold snc
  rw [← List.length_reverse]
  generalize l.reverse = r
  induction r with
  | nil => exact Nat.le_refl _
  | cons t r ih =>
    unfold sncR
    split
    · omega
    · split <;> simp only [List.length_cons] <;> omega

def rightP (l : List Int) (n : Nat) (rate : Int) : Prop := ∀ a, a < n → ∀ b, b < n → a ≠ b → (snc l (a : Int) (b : Int) : Int) ≤ rate
instance (l : List Int) (n : Nat) (rate : Int) : Decidable (rightP l n rate) := by unfold rightP; infer_instance
def rightB (l : List Int) (n : Nat) (rate : Int) : Bool := decide (rightP l n rate)
def mayB (n rate : Int) : Bool := decide (1 ≤ n ∧ n ≤ 9 ∧ 1 ≤ rate ∧ rate ≤ 16)

/-- the first place from i on, among k, at which it is not so -/
def firstGo (P : Nat → Bool) : Nat → Nat → Nat
  | 0, i => i
  | k + 1, i => if P i then firstGo P k (i + 1) else i
theorem firstGo_eq (P : Nat → Bool) (k i r : Nat) (h1 : i ≤ r) (h2 : r ≤ i + k) (h3 : ∀ j, i ≤ j → j < r → P j = true) (h4 : r < i + k → P r = false) : firstGo P k i = r := by
  induction k generalizing i with
  | zero => unfold firstGo; omega
  | succ k ih =>
    unfold firstGo
    by_cases hr : r = i
    · subst hr
      rw [h4 (by omega)]
      rfl
    · rw [h3 i (Nat.le_refl _) (by omega)]
      simp only [if_true]
      exact ih (i + 1) (by omega) (by omega) (fun j hj => h3 j (by omega)) (fun h => h4 (by omega))
theorem firstGo_spec (P : Nat → Bool) (k i : Nat) : i ≤ firstGo P k i ∧ firstGo P k i ≤ i + k ∧ (∀ j, i ≤ j → j < firstGo P k i → P j = true) ∧ (firstGo P k i < i + k → P (firstGo P k i) = false) := by
  induction k generalizing i with
  | zero => unfold firstGo; exact ⟨Nat.le_refl _, by omega, fun j h1 h2 => by omega, fun h => by omega⟩
  | succ k ih =>
    unfold firstGo
    by_cases h : P i = true
    · rw [h]
      simp only [if_true]
      obtain ⟨a, b, c, d⟩ := ih (i + 1)
      refine ⟨by omega, by omega, fun j h1 h2 => ?_, fun h => d (by omega)⟩
      by_cases e : j = i
      · subst e; assumption
      · exact c j (by omega) h2
    · have h' : P i = false := by simpa using h
      rw [h']
      simp only [Bool.false_eq_true, if_false]
      exact ⟨Nat.le_refl _, by omega, fun j h1 h2 => by omega, fun _ => h'⟩

def firstL (l : List Int) (n : Nat) (rate : Int) : Nat := firstGo (fun i => rightB (l.take (i + 1)) n rate) l.length 0
theorem firstL_le (l : List Int) (n : Nat) (rate : Int) : firstL l n rate ≤ l.length := by
  have := (firstGo_spec (fun i => rightB (l.take (i + 1)) n rate) l.length 0).2.1
  unfold firstL
  omega
theorem firstL_eq (l : List Int) (n : Nat) (rate : Int) (r : Nat) (h2 : r ≤ l.length) (h3 : ∀ j, j < r → rightB (l.take (j + 1)) n rate = true) (h4 : r < l.length → rightB (l.take (r + 1)) n rate = false) : firstL l n rate = r :=
  firstGo_eq _ _ _ _ (Nat.zero_le _) (by omega) (fun j _ hj => h3 j hj) (fun h => h4 (by omega))
/-- 'holds': each beginning is right -/
def AllR (l : List Int) (n : Nat) (rate : Int) : Prop := ∀ j, j < l.length → rightB (l.take (j + 1)) n rate = true
theorem firstL_len (l : List Int) (n : Nat) (rate : Int) : firstL l n rate = l.length ↔ AllR l n rate := by
  constructor
  · intro h j hj
    have := (firstGo_spec (fun i => rightB (l.take (i + 1)) n rate) l.length 0).2.2.1 j (Nat.zero_le _)
    unfold firstL at h
    rw [h] at this
    exact this hj
  · intro h
    exact firstL_eq l n rate _ (Nat.le_refl _) h (fun h => by omega)
theorem rightP_nil (n : Nat) (rate : Int) (h : 0 ≤ rate) : rightP [] n rate := by
  intro a _ b _ _
  simp only [snc_nil]
  exact h
theorem AllR_take (l : List Int) (n : Nat) (rate : Int) (k : Nat) (h : AllR l n rate) : AllR (l.take k) n rate := by
  intro j hj
  rw [List.length_take] at hj
  rw [List.take_take, Nat.min_eq_left (by omega)]
  exact h j (by omega)
theorem rightP_mono (l : List Int) (n : Nat) (r s : Int) (h : r ≤ s) (hr : rightP l n r) : rightP l n s := fun a ha b hb hab => by
  have := hr a ha b hb hab
  omega
theorem AllR_mono (l : List Int) (n : Nat) (r s : Int) (h : r ≤ s) (hr : AllR l n r) : AllR l n s := fun j hj => by
  have := hr j hj
  unfold rightB at this ⊢
  rw [decide_eq_true_iff] at this ⊢
  exact rightP_mono _ _ _ _ h this
theorem AllR_snoc (l : List Int) (t : Int) (n : Nat) (r : Int) (h : AllR l n r) (ht : rightB (l ++ [t]) n r = true) : AllR (l ++ [t]) n r := by
  intro j hj
  rw [List.length_append, List.length_singleton] at hj
  by_cases e : j = l.length
  · subst e
    rw [List.take_of_length_le (by simp)]
    exact ht
  · rw [List.take_append_of_le_length (by omega)]
    exact h j (by omega)

/-- one tick more is right, if nobody has seen as many as it may of who ticks -/
theorem right_step (l : List Int) (t : Nat) (n : Nat) (rate : Int) (hr : 0 ≤ rate) (ht : t < n) (h : rightP l n rate) :
    rightP (l ++ [(t : Int)]) n rate ↔ ∀ b, b < n → b ≠ t → (snc l (t : Int) (b : Int) : Int) < rate := by
  constructor
  · intro hs b hb hbt
    have := hs t ht b hb (by omega)
    rw [snc_snoc, if_neg (by omega), if_pos rfl] at this
    omega
  · intro hs a ha b hb hab
    rw [snc_snoc]
    by_cases e : (t : Int) = (b : Int)
    · rw [if_pos e]; omega
    · rw [if_neg e]
      by_cases e2 : (t : Int) = (a : Int)
      · rw [if_pos e2]
        obtain rfl : t = a := by omega
        have := hs b hb (by omega)
        omega
      · rw [if_neg e2]
        have := h a ha b hb hab
        omega
/-- a tick of none of them changes nothing -/
theorem snc_far (l : List Int) (t : Int) (a b : Nat) (n : Nat) (ha : a < n) (hb : b < n) (ht : t < 0 ∨ (n : Int) ≤ t) : snc (l ++ [t]) (a : Int) (b : Int) = snc l (a : Int) (b : Int) := by
  rw [snc_snoc, if_neg (by omega), if_neg (by omega)]
  rfl
theorem right_far (l : List Int) (t : Int) (n : Nat) (rate : Int) (ht : t < 0 ∨ (n : Int) ≤ t) : rightP (l ++ [t]) n rate ↔ rightP l n rate := by
  constructor
  · intro h a ha b hb hab
    have := h a ha b hb hab
    rwa [snc_far l t a b n ha hb ht] at this
  · intro h a ha b hb hab
    rw [snc_far l t a b n ha hb ht]
    exact h a ha b hb hab

/-- what the gauge is asked: may it tick? -/
def canP (m : Nat → Nat → Nat) (n : Nat) (rate t : Int) : Prop := 0 ≤ t → t < n → ∀ b, b < n → (b : Int) ≠ t → (m b t.toNat : Int) < rate
instance (m : Nat → Nat → Nat) (n : Nat) (rate t : Int) : Decidable (canP m n rate t) := by unfold canP; infer_instance
def canB (m : Nat → Nat → Nat) (n : Nat) (rate t : Int) : Bool := decide (canP m n rate t)
def tickF (m : Nat → Nat → Nat) (n : Nat) (t : Int) (a b : Nat) : Nat :=
  if 0 ≤ t ∧ t < n then (if (a : Int) = t then 0 else if (b : Int) = t then m a b + 1 else m a b) else m a b
/-- what the gauge has: of other a, node b: how often b ticked since a did -/
def mOf (l : List Int) : Nat → Nat → Nat := fun a b => snc l (b : Int) (a : Int)

theorem can_iff (l : List Int) (n : Nat) (rate t : Int) (hr : 0 ≤ rate) (h : rightB l n rate = true) : canB (mOf l) n rate t = rightB (l ++ [t]) n rate := by
  unfold rightB at h
  rw [decide_eq_true_iff] at h
  unfold canB rightB
  rw [decide_eq_decide]
  by_cases ht : t < 0 ∨ (n : Int) ≤ t
  · rw [right_far l t n rate ht]
    exact ⟨fun _ => h, fun _ h0 h1 => by omega⟩
  · obtain ⟨k, rfl⟩ := Int.eq_ofNat_of_zero_le (show 0 ≤ t by omega)
    rw [right_step l k n rate hr (by omega) h]
    unfold canP mOf
    constructor
    · intro hc b hb hbt
      have := hc (by omega) (by omega) b hb (by omega)
      rwa [Int.toNat_natCast] at this
    · intro hc _ _ b hb hbt
      rw [Int.toNat_natCast]
      exact hc b hb (by omega)
theorem tick_eq (l : List Int) (n : Nat) (t : Int) (a b : Nat) (ha : a < n) (hb : b < n) : tickF (mOf l) n t a b = mOf (l ++ [t]) a b := by
  unfold tickF mOf
  rw [snc_snoc]
  by_cases ht : 0 ≤ t ∧ t < n
  · rw [if_pos ht]
    by_cases e : (a : Int) = t
    · rw [if_pos e, if_pos e.symm]
    · rw [if_neg e, if_neg (show ¬ t = (a : Int) from fun h => e h.symm)]
      by_cases e2 : (b : Int) = t
      · rw [if_pos e2, if_pos (show t = (b : Int) from e2.symm)]
      · rw [if_neg e2, if_neg (show ¬ t = (b : Int) from fun h => e2 h.symm)]
        rfl
  · rw [if_neg ht, if_neg (by omega), if_neg (by omega)]
    rfl

/-- which ticks are kept -/
def keepStep (n : Nat) (rate : Int) (out : List Int) (t : Int) : List Int := if rightB (out ++ [t]) n rate then out ++ [t] else out
def keepL (l : List Int) (n : Nat) (rate : Int) : List Int := l.foldl (keepStep n rate) []
theorem keepL_snoc (l : List Int) (t : Int) (n : Nat) (rate : Int) : keepL (l ++ [t]) n rate = keepStep n rate (keepL l n rate) t := by simp [keepL]
theorem keepStep_all (out : List Int) (t : Int) (n : Nat) (rate : Int) (h : AllR out n rate) : AllR (keepStep n rate out t) n rate := by
  unfold keepStep
  split
  · exact AllR_snoc _ _ _ _ h ‹_›
  · exact h
theorem foldl_all (l out : List Int) (n : Nat) (rate : Int) (h : AllR out n rate) : AllR (l.foldl (keepStep n rate) out) n rate := by
  induction l generalizing out with
  | nil => exact h
  | cons t l ih => exact ih _ (keepStep_all _ _ _ _ h)
theorem AllR_nil (n : Nat) (rate : Int) : AllR [] n rate := fun j hj => by simp at hj
theorem keepL_all (l : List Int) (n : Nat) (rate : Int) : AllR (keepL l n rate) n rate := foldl_all l [] n rate (AllR_nil _ _)
theorem keepL_same (l : List Int) (n : Nat) (rate : Int) (h : AllR l n rate) : keepL l n rate = l := by
  have main : ∀ k, k ≤ l.length → keepL (l.take k) n rate = l.take k := by
    intro k
    induction k with
    | zero => intro _; rfl
    | succ k ih =>
      intro hk
      rw [List.take_succ_eq_append_getElem (by omega), keepL_snoc, ih (by omega)]
      unfold keepStep
      rw [← List.take_succ_eq_append_getElem (by omega), if_pos (h k (by omega))]
  have := main l.length (Nat.le_refl _)
  rwa [List.take_length] at this
theorem keepL_len (l : List Int) (n : Nat) (rate : Int) : (keepL l n rate).length ≤ l.length := by
  have main : ∀ (l out : List Int), (l.foldl (keepStep n rate) out).length ≤ out.length + l.length := by
    intro l
    induction l with
    | nil => intro out; simp
    | cons t l ih =>
      intro out
      have h1 := ih (keepStep n rate out t)
      have h2 : (keepStep n rate out t).length ≤ out.length + 1 := by
        unfold keepStep
        split <;> simp
      simp only [List.foldl_cons, List.length_cons]
      omega
  have := main l []
  unfold keepL
  simpa using this
theorem AllR_right (l : List Int) (n : Nat) (rate : Int) (hr : 0 ≤ rate) (h : AllR l n rate) : rightB l n rate = true := by
  rcases Nat.eq_zero_or_pos l.length with h0 | h0
  · obtain rfl := List.eq_nil_of_length_eq_zero h0
    unfold rightB
    rw [decide_eq_true_iff]
    exact rightP_nil _ _ hr
  · have := h (l.length - 1) (by omega)
    rwa [show l.length - 1 + 1 = l.length from by omega, List.take_length] at this

/-- clocks that tick by turns: 'p' is who ticks next; how long ago it is that x ticked -/
def ago (n p x : Nat) : Nat := if x < p then p - 1 - x else p - 1 + n - x
def turnOk (l : List Int) (n p : Nat) (c : Int) : Prop := ∀ a, a < n → ∀ b, b < n → a ≠ b → (snc l (a : Int) (b : Int) : Int) ≤ c ∧ (0 < snc l (a : Int) (b : Int) → (if a < p then p + n - a else p + n + n - a) < (if b < p then p + n - b else p + n + n - b))
theorem turnOk_nil (n p : Nat) (c : Int) (hc : 0 ≤ c) : turnOk [] n p c := by
  intro a _ b _ _
  simp only [snc_nil]
  exact ⟨hc, fun h => by omega⟩
def nextP (n p : Nat) : Nat := if p + 1 = n then 0 else p + 1
theorem turn_one (l : List Int) (n p : Nat) (hp : p < n) (h : turnOk l n p 1) : turnOk (l ++ [(p : Int)]) n (nextP n p) 1 := by
  intro a ha b hb hab
  have h1 := h a ha b hb hab
  rw [snc_snoc]
  unfold nextP
  by_cases e : (p : Int) = (b : Int)
  · rw [if_pos e]
    exact ⟨by omega, fun h => by omega⟩
  · rw [if_neg e]
    by_cases e2 : (p : Int) = (a : Int)
    · rw [if_pos e2]
      obtain rfl : p = a := by omega
      obtain ⟨h2, h3⟩ := h1
      have hz : snc l (p : Int) (b : Int) = 0 := by
        rcases Nat.eq_zero_or_pos (snc l (p : Int) (b : Int)) with h0 | h0
        · exact h0
        · have := h3 h0
          repeat' split at this
          all_goals omega
      rw [hz]
      refine ⟨by omega, fun _ => ?_⟩
      repeat' split
      all_goals omega
    · rw [if_neg e2, Nat.add_zero]
      refine ⟨h1.1, fun h0 => ?_⟩
      have := h1.2 h0
      repeat' split at this
      all_goals repeat' split
      all_goals omega
theorem turn_two (l : List Int) (n p : Nat) (hp : p < n) (h : turnOk l n p 2) : rightP (l ++ [(p : Int)]) n 2 ∧ turnOk (l ++ [(p : Int)] ++ [(p : Int)]) n (nextP n p) 2 := by
  have main : ∀ a, a < n → ∀ b, b < n → a ≠ b → (snc (l ++ [(p : Int)]) (a : Int) (b : Int) : Int) ≤ 2 ∧ (snc (l ++ [(p : Int)] ++ [(p : Int)]) (a : Int) (b : Int) : Int) ≤ 2 ∧
      (0 < snc (l ++ [(p : Int)] ++ [(p : Int)]) (a : Int) (b : Int) → (if a < nextP n p then nextP n p + n - a else nextP n p + n + n - a) < (if b < nextP n p then nextP n p + n - b else nextP n p + n + n - b)) := by
    intro a ha b hb hab
    have h1 := h a ha b hb hab
    rw [snc_snoc (l ++ [(p : Int)]), snc_snoc l]
    unfold nextP
    by_cases e : (p : Int) = (b : Int)
    · simp only [if_pos e]
      exact ⟨by omega, by omega, fun h => by omega⟩
    · simp only [if_neg e]
      by_cases e2 : (p : Int) = (a : Int)
      · simp only [if_pos e2]
        obtain rfl : p = a := by omega
        obtain ⟨h2, h3⟩ := h1
        have hz : snc l (p : Int) (b : Int) = 0 := by
          rcases Nat.eq_zero_or_pos (snc l (p : Int) (b : Int)) with h0 | h0
          · exact h0
          · have := h3 h0
            repeat' split at this
            all_goals omega
        rw [hz]
        refine ⟨by omega, by omega, fun _ => ?_⟩
        repeat' split
        all_goals omega
      · simp only [if_neg e2, Nat.add_zero]
        refine ⟨h1.1, h1.1, fun h0 => ?_⟩
        have := h1.2 h0
        repeat' split at this
        all_goals repeat' split
        all_goals omega
  exact ⟨fun a ha b hb hab => (main a ha b hb hab).1, fun a ha b hb hab => (main a ha b hb hab).2⟩
theorem turnOk_right (l : List Int) (n p : Nat) (c : Int) (h : turnOk l n p c) : rightP l n c := fun a ha b hb hab => (h a ha b hb hab).1
theorem nextP_lt (n p : Nat) (hp : p < n) : nextP n p < n := by
  unfold nextP
  split <;> omega
theorem next_mod (n s i : Nat) (hn : 0 < n) : (s + (i + 1)) % n = nextP n ((s + i) % n) := by
  unfold nextP
  have h1 := Nat.mod_lt (s + i) hn
  rw [← Nat.add_assoc, Nat.add_mod]
  by_cases h : (s + i) % n + 1 = n
  · rw [if_pos h]
    rcases Nat.lt_or_ge 1 n with h2 | h2
    · rw [Nat.mod_eq_of_lt h2, h, Nat.mod_self]
    · obtain rfl : n = 1 := by omega
      omega
  · rw [if_neg h, Nat.mod_eq_of_lt (show 1 < n by omega)]
    exact Nat.mod_eq_of_lt (by omega)
/-- the ticks by turns, once and twice -/
def turnL (n s : Nat) : Nat → List Int
  | 0 => []
  | i + 1 => turnL n s i ++ [(((s + i) % n : Nat) : Int)]
def turn2L (n s : Nat) : Nat → List Int
  | 0 => []
  | i + 1 => turn2L n s i ++ [(((s + i) % n : Nat) : Int)] ++ [(((s + i) % n : Nat) : Int)]
theorem turnL_ok (n s k : Nat) (hn : 0 < n) : turnOk (turnL n s k) n ((s + k) % n) 1 ∧ AllR (turnL n s k) n 1 := by
  induction k with
  | zero => exact ⟨turnOk_nil _ _ _ (by omega), AllR_nil _ _⟩
  | succ k ih =>
    have h := turn_one _ n _ (Nat.mod_lt _ hn) ih.1
    rw [← next_mod n s k hn] at h
    refine ⟨h, AllR_snoc _ _ _ _ ih.2 ?_⟩
    unfold rightB
    rw [decide_eq_true_iff]
    exact turnOk_right _ _ _ _ h
theorem turn2L_ok (n s k : Nat) (hn : 0 < n) : turnOk (turn2L n s k) n ((s + k) % n) 2 ∧ AllR (turn2L n s k) n 2 := by
  induction k with
  | zero => exact ⟨turnOk_nil _ _ _ (by omega), AllR_nil _ _⟩
  | succ k ih =>
    obtain ⟨h1, h⟩ := turn_two _ n _ (Nat.mod_lt _ hn) ih.1
    rw [← next_mod n s k hn] at h
    refine ⟨h, AllR_snoc _ _ _ _ (AllR_snoc _ _ _ _ ih.2 ?_) ?_⟩
    · unfold rightB
      rw [decide_eq_true_iff]
      exact h1
    · unfold rightB
      rw [decide_eq_true_iff]
      exact turnOk_right _ _ _ _ h
theorem turnL_len (n s k : Nat) : (turnL n s k).length = k := by
  induction k with
  | zero => rfl
  | succ k ih => simp [turnL, ih]
theorem turn2L_len (n s k : Nat) : (turn2L n s k).length = 2 * k := by
  induction k with
  | zero => rfl
  | succ k ih => simp [turn2L, ih]; omega
theorem turn2L_two (n s k : Nat) (hk : 0 < k) : (turn2L n s k).take 2 = [((s % n : Nat) : Int), ((s % n : Nat) : Int)] := by
  induction k with
  | zero => omega
  | succ k ih =>
    rcases Nat.eq_zero_or_pos k with h0 | h0
    · subst h0; rfl
    · have hl := turn2L_len n s k
      unfold turn2L
      rw [List.append_assoc, List.take_append_of_le_length (by omega)]
      exact ih h0
theorem turn2L_first (n s k : Nat) (hn : 2 ≤ n) (hk : 0 < k) : firstL (turn2L n s k) n 1 = 1 := by
  have hl := turn2L_len n s k
  have ht := turn2L_two n s k hk
  refine firstL_eq _ _ _ _ (by omega) (fun j hj => ?_) (fun _ => ?_)
  · obtain rfl : j = 0 := by omega
    have h1 : (turn2L n s k).take 1 = [((s % n : Nat) : Int)] := by
      have := congrArg (List.take 1) ht
      rw [List.take_take] at this
      exact this
    rw [Nat.zero_add, h1]
    unfold rightB
    rw [decide_eq_true_iff]
    intro a _ b _ _
    unfold snc sncR
    simp only [List.reverse_cons, List.reverse_nil, List.nil_append, sncR]
    repeat' split
    all_goals omega
  · rw [show 1 + 1 = 2 from rfl, ht]
    unfold rightB
    rw [decide_eq_false_iff_not]
    intro h
    have hm := Nat.mod_lt s (show 0 < n by omega)
    have := h (s % n) hm (if s % n = 0 then 1 else 0) (by split <;> omega) (by split <;> omega)
    unfold snc at this
    simp only [List.reverse_cons, List.reverse_nil, List.nil_append, List.cons_append, sncR] at this
    rw [if_neg (by split <;> omega), if_neg (by split <;> omega)] at this
    simp at this

end Go.Proofs.Ytdgamdjfcamnlaa
