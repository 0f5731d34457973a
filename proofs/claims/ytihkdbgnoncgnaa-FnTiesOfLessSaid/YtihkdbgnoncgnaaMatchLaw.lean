/- Plain laws of matchings (no program in sight): the greatest number of pairs and the number of matchings of two lists of sizes. No condition. -/
import Derived.Test.YtihkdbgnoncgnaaLib
namespace Go.Proofs.Ytihkdbgnoncgnaa

def lk (t x y : Int) : Bool := decide (x - y ≤ t) && decide (y - x ≤ t)
theorem lk_comm (t x y : Int) : lk t x y = lk t y x := by simp only [lk, Bool.and_comm]
theorem lk_self {t : Int} (x : Int) (h : 0 ≤ t) : lk t x x = true := by simp [lk]; omega
theorem lk_mono {t s x y : Int} (h : t ≤ s) (hl : lk t x y = true) : lk s x y = true := by simp [lk] at *; omega

/-! ## some matching has so many pairs -/
inductive Mt (t : Int) : List Int → List Int → Nat → Prop where
  | none (xs ys : List Int) : Mt t xs ys 0
  | left {xs ys : List Int} {n : Nat} (x : Int) (h : Mt t xs ys n) : Mt t (x :: xs) ys n
  | right {xs ys : List Int} {n : Nat} (y : Int) (h : Mt t xs ys n) : Mt t xs (y :: ys) n
  | both {xs ys : List Int} {n : Nat} {x y : Int} (hl : lk t x y = true) (h : Mt t xs ys n) : Mt t (x :: xs) (y :: ys) (n + 1)

theorem Mt.symm {t : Int} {xs ys : List Int} {n : Nat} (h : Mt t xs ys n) : Mt t ys xs n := by
  induction h with
  | none xs ys => exact .none _ _
  | left x _ ih => exact .right x ih
  | right y _ ih => exact .left y ih
  | both hl _ ih => exact .both (by rw [lk_comm]; exact hl) ih
theorem Mt.more {t s : Int} (hs : t ≤ s) {xs ys : List Int} {n : Nat} (h : Mt t xs ys n) : Mt s xs ys n := by
  induction h with
  | none xs ys => exact .none _ _
  | left x _ ih => exact .left x ih
  | right y _ ih => exact .right y ih
  | both hl _ ih => exact .both (lk_mono hs hl) ih
theorem Mt.le_left {t : Int} {xs ys : List Int} {n : Nat} (h : Mt t xs ys n) : n ≤ xs.length := by
  induction h with
  | none xs ys => exact Nat.zero_le _
  | left x _ ih => simp; omega
  | right y _ ih => exact ih
  | both hl _ ih => simp; omega
theorem Mt.le_right {t : Int} {xs ys : List Int} {n : Nat} (h : Mt t xs ys n) : n ≤ ys.length := h.symm.le_left
theorem Mt.down {t : Int} {xs ys : List Int} {n : Nat} (h : Mt t xs ys n) : ∀ m, m ≤ n → Mt t xs ys m := by
  induction h with
  | none xs ys => intro m hm; obtain rfl : m = 0 := by omega
                  exact .none _ _
  | left x _ ih => exact fun m hm => .left x (ih m hm)
  | right y _ ih => exact fun m hm => .right y (ih m hm)
  | both hl _ ih =>
    intro m hm
    cases m with
    | zero => exact .none _ _
    | succ m => exact .both hl (ih m (by omega))
theorem Mt.leftMany {t : Int} {xs ys : List Int} {n : Nat} (h : Mt t xs ys n) : ∀ as : List Int, Mt t (as ++ xs) ys n
  | [] => h
  | a :: as => .left a (h.leftMany as)
theorem Mt.rightMany {t : Int} {xs ys : List Int} {n : Nat} (h : Mt t xs ys n) : ∀ bs : List Int, Mt t xs (bs ++ ys) n
  | [] => h
  | b :: bs => .right b (h.rightMany bs)
theorem Mt.append {t : Int} {xs ys as bs : List Int} {n m : Nat} (h : Mt t xs ys n) (k : Mt t as bs m) : Mt t (xs ++ as) (ys ++ bs) (n + m) := by
  induction h with
  | none xs ys => rw [Nat.zero_add]; exact (k.leftMany xs).rightMany ys
  | left x _ ih => exact .left x ih
  | right y _ ih => exact .right y ih
  | both hl _ ih => rw [Nat.add_right_comm]; exact .both hl ih
theorem Mt.reverse {t : Int} {xs ys : List Int} {n : Nat} (h : Mt t xs ys n) : Mt t xs.reverse ys.reverse n := by
  induction h with
  | none xs ys => exact .none _ _
  | left x _ ih =>
    have := ih.append (Mt.none (t := t) [x] [])
    simpa using this
  | right y _ ih =>
    have := ih.append (Mt.none (t := t) [] [y])
    simpa using this
  | @both xs ys n x y hl _ ih =>
    have := ih.append (Mt.both hl (Mt.none (t := t) [] []))
    simpa using this
theorem Mt.snoc {t z : Int} : ∀ {xs zs : List Int} {n : Nat}, Mt t xs zs n → ∀ ys, zs = ys ++ [z] → ∃ m, n ≤ m + 1 ∧ Mt t xs ys m := by
  intro xs zs n h
  induction h with
  | none xs ys => exact fun ys _ => ⟨0, by omega, .none _ _⟩
  | left x _ ih =>
    intro ys e
    obtain ⟨m, h1, h2⟩ := ih ys e
    exact ⟨m, h1, .left x h2⟩
  | @right xs zs n y h ih =>
    intro ys e
    cases ys with
    | nil =>
      simp only [List.nil_append, List.cons.injEq] at e
      obtain ⟨rfl, rfl⟩ := e
      exact ⟨0, by have := h.le_right; simp at this; omega, .none _ _⟩
    | cons y' ys =>
      simp only [List.cons_append, List.cons.injEq] at e
      obtain ⟨rfl, rfl⟩ := e
      obtain ⟨m, h1, h2⟩ := ih ys rfl
      exact ⟨m, h1, .right y h2⟩
  | @both xs zs n x y hl h ih =>
    intro ys e
    cases ys with
    | nil =>
      simp only [List.nil_append, List.cons.injEq] at e
      obtain ⟨rfl, rfl⟩ := e
      exact ⟨0, by have := h.le_right; simp at this; omega, .none _ _⟩
    | cons y' ys =>
      simp only [List.cons_append, List.cons.injEq] at e
      obtain ⟨rfl, rfl⟩ := e
      obtain ⟨m, h1, h2⟩ := ih ys rfl
      exact ⟨m + 1, by omega, .both hl h2⟩

/-! ## the greatest number of pairs -/
def mostL (t : Int) : List Int → List Int → Nat
  | [], _ => 0
  | _ :: _, [] => 0
  | x :: xs, y :: ys => if lk t x y = true then max (max (mostL t xs (y :: ys)) (mostL t (x :: xs) ys)) (1 + mostL t xs ys) else max (mostL t xs (y :: ys)) (mostL t (x :: xs) ys)
termination_by xs ys => xs.length + ys.length
theorem mostL_nil (t : Int) (ys : List Int) : mostL t [] ys = 0 := by rw [mostL]
theorem mostL_nil' (t : Int) (xs : List Int) : mostL t xs [] = 0 := by cases xs <;> rw [mostL]
theorem mostL_cons (t x y : Int) (xs ys : List Int) : mostL t (x :: xs) (y :: ys) =
    if lk t x y = true then max (max (mostL t xs (y :: ys)) (mostL t (x :: xs) ys)) (1 + mostL t xs ys) else max (mostL t xs (y :: ys)) (mostL t (x :: xs) ys) := by
  rw [mostL]
theorem mostL_is (t : Int) : ∀ (k : Nat) (xs ys : List Int), xs.length + ys.length ≤ k → Mt t xs ys (mostL t xs ys)
  | _, [], ys, _ => by rw [mostL_nil]; exact .none _ _
  | _, x :: xs, [], _ => by rw [mostL_nil']; exact .none _ _
  | 0, x :: xs, y :: ys, h => by simp at h
  | k + 1, x :: xs, y :: ys, h => by
    simp only [List.length_cons] at h
    have h1 := mostL_is t k xs (y :: ys) (by simp; omega)
    have h2 := mostL_is t k (x :: xs) ys (by simp; omega)
    have h3 := mostL_is t k xs ys (by omega)
    rw [mostL_cons]
    have hm : Mt t (x :: xs) (y :: ys) (max (mostL t xs (y :: ys)) (mostL t (x :: xs) ys)) := by
      rcases Nat.le_total (mostL t xs (y :: ys)) (mostL t (x :: xs) ys) with h | h
      · rw [Nat.max_eq_right h]; exact .right y h2
      · rw [Nat.max_eq_left h]; exact .left x h1
    split
    · rename_i hl
      rcases Nat.le_total (max (mostL t xs (y :: ys)) (mostL t (x :: xs) ys)) (1 + mostL t xs ys) with h | h
      · rw [Nat.max_eq_right h, Nat.add_comm]; exact .both hl h3
      · rw [Nat.max_eq_left h]; exact hm
    · exact hm
theorem mostL_mt (t : Int) (xs ys : List Int) : Mt t xs ys (mostL t xs ys) := mostL_is t _ xs ys (Nat.le_refl _)
theorem mostL_left (t x : Int) (xs ys : List Int) : mostL t xs ys ≤ mostL t (x :: xs) ys := by
  cases ys with
  | nil => rw [mostL_nil', mostL_nil']; exact Nat.le_refl _
  | cons y ys => rw [mostL_cons]; split <;> omega
theorem mostL_right (t y : Int) (xs ys : List Int) : mostL t xs ys ≤ mostL t xs (y :: ys) := by
  cases xs with
  | nil => rw [mostL_nil, mostL_nil]; exact Nat.le_refl _
  | cons x xs => rw [mostL_cons]; split <;> omega
theorem mostL_max {t : Int} {xs ys : List Int} {n : Nat} (h : Mt t xs ys n) : n ≤ mostL t xs ys := by
  induction h with
  | none xs ys => exact Nat.zero_le _
  | left x _ ih => exact Nat.le_trans ih (mostL_left ..)
  | right y _ ih => exact Nat.le_trans ih (mostL_right ..)
  | both hl _ ih => rw [mostL_cons, if_pos hl]; omega
theorem mostL_comm (t : Int) (xs ys : List Int) : mostL t xs ys = mostL t ys xs := Nat.le_antisymm (mostL_max (mostL_mt t xs ys).symm) (mostL_max (mostL_mt t ys xs).symm)
theorem mostL_reverse (t : Int) (xs ys : List Int) : mostL t xs.reverse ys.reverse = mostL t xs ys :=
  Nat.le_antisymm (mostL_max (by simpa using (mostL_mt t xs.reverse ys.reverse).reverse)) (mostL_max (mostL_mt t xs ys).reverse)
theorem mostL_more {t s : Int} (h : t ≤ s) (xs ys : List Int) : mostL t xs ys ≤ mostL s xs ys := mostL_max ((mostL_mt t xs ys).more h)
theorem mostL_le (t : Int) (xs ys : List Int) : mostL t xs ys ≤ xs.length ∧ mostL t xs ys ≤ ys.length := ⟨(mostL_mt t xs ys).le_left, (mostL_mt t xs ys).le_right⟩
theorem mostL_snoc (t z : Int) (xs ys : List Int) : mostL t xs ys ≤ mostL t xs (ys ++ [z]) ∧ mostL t xs (ys ++ [z]) ≤ mostL t xs ys + 1 := by
  constructor
  · have := (mostL_mt t xs ys).append (Mt.none (t := t) [] [z])
    rw [List.append_nil] at this
    exact mostL_max this
  · obtain ⟨m, h1, h2⟩ := (mostL_mt t xs (ys ++ [z])).snoc ys rfl
    have := mostL_max h2
    omega
theorem mostL_snoc' (t z : Int) (xs ys : List Int) : mostL t xs ys ≤ mostL t (xs ++ [z]) ys ∧ mostL t (xs ++ [z]) ys ≤ mostL t xs ys + 1 := by
  rw [mostL_comm t xs, mostL_comm t (xs ++ [z])]; exact mostL_snoc t z ys xs
theorem mostL_self {t : Int} (h : 0 ≤ t) (xs : List Int) : mostL t xs xs = xs.length := by
  refine Nat.le_antisymm (mostL_le t xs xs).1 (mostL_max ?_)
  induction xs with
  | nil => exact .none _ _
  | cons x xs ih => exact .both (lk_self x h) ih
/-- The first of the left has a partner or not. -/
theorem mostL_first (t x : Int) (xs : List Int) : ∀ ys : List Int, mostL t (x :: xs) ys = mostL t xs ys ∨ ∃ k, k < ys.length ∧ lk t x (gI ys k) = true ∧ mostL t (x :: xs) ys = 1 + mostL t xs (ys.drop (k + 1))
  | [] => .inl (by rw [mostL_nil', mostL_nil'])
  | y :: ys => by
    have hr := mostL_right t y xs ys
    have ih := mostL_first t x xs ys
    have hb : ∀ k, gI (y :: ys) (k + 1) = gI ys k := fun k => by simp [gI]
    rw [mostL_cons]
    by_cases hc : lk t x y = true ∧ max (mostL t xs (y :: ys)) (mostL t (x :: xs) ys) ≤ 1 + mostL t xs ys
    · exact .inr ⟨0, by simp, by simpa [gI] using hc.1, by rw [if_pos hc.1]; simp; omega⟩
    · have he : (if lk t x y = true then max (max (mostL t xs (y :: ys)) (mostL t (x :: xs) ys)) (1 + mostL t xs ys) else max (mostL t xs (y :: ys)) (mostL t (x :: xs) ys)) = max (mostL t xs (y :: ys)) (mostL t (x :: xs) ys) := by
        split
        · rename_i hl
          have : ¬ max (mostL t xs (y :: ys)) (mostL t (x :: xs) ys) ≤ 1 + mostL t xs ys := fun h => hc ⟨hl, h⟩
          omega
        · rfl
      rw [he]
      rcases ih with h1 | ⟨k, h1, h2, h3⟩
      · left; rw [h1]; omega
      · rcases Nat.le_total (mostL t (x :: xs) ys) (mostL t xs (y :: ys)) with h | h
        · left; omega
        · right; exact ⟨k + 1, by simp; omega, by rw [hb]; exact h2, by rw [Nat.max_eq_right h]; simpa using h3⟩

/-- The same at two places of the lists. -/
def mAt (t : Int) (xs ys : List Int) (i k : Nat) : Nat := mostL t (xs.drop i) (ys.drop k)
theorem drop_gI {l : List Int} {k : Nat} (h : k < l.length) : l.drop k = gI l k :: l.drop (k + 1) := by rw [gI_lt h]; exact List.drop_eq_getElem_cons h
theorem mAt_left (t : Int) (xs ys : List Int) (i k : Nat) (h : xs.length ≤ i) : mAt t xs ys i k = 0 := by unfold mAt; rw [List.drop_eq_nil_of_le h]; exact mostL_nil ..
theorem mAt_right (t : Int) (xs ys : List Int) (i k : Nat) (h : ys.length ≤ k) : mAt t xs ys i k = 0 := by unfold mAt; rw [List.drop_eq_nil_of_le h]; exact mostL_nil' ..
theorem mAt_yes {t : Int} {xs ys : List Int} {i k : Nat} (hi : i < xs.length) (hk : k < ys.length) (hl : lk t (gI xs i) (gI ys k) = true) :
    mAt t xs ys i k = max (max (mAt t xs ys (i + 1) k) (mAt t xs ys i (k + 1))) (1 + mAt t xs ys (i + 1) (k + 1)) := by
  unfold mAt; rw [drop_gI hi, drop_gI hk, mostL_cons, if_pos hl]
theorem mAt_no {t : Int} {xs ys : List Int} {i k : Nat} (hi : i < xs.length) (hk : k < ys.length) (hl : lk t (gI xs i) (gI ys k) = false) :
    mAt t xs ys i k = max (mAt t xs ys (i + 1) k) (mAt t xs ys i (k + 1)) := by
  unfold mAt; rw [drop_gI hi, drop_gI hk, mostL_cons, if_neg (by rw [hl]; simp)]
theorem mAt_le (t : Int) (xs ys : List Int) (i k : Nat) : mAt t xs ys i k ≤ xs.length := by
  have := (mostL_le t (xs.drop i) (ys.drop k)).1
  rw [List.length_drop] at this
  unfold mAt; omega

/-! ## the number of matchings -/
def tailSum (t : Int) (f : List Int → Nat) (x : Int) : List Int → Nat
  | [] => 0
  | y :: ys => (if lk t x y = true then f ys else 0) + tailSum t f x ys
def countL (t : Int) : List Int → List Int → Nat
  | [], _ => 1
  | x :: xs, ys => countL t xs ys + tailSum t (countL t xs) x ys
/-- 1 for two that can be a pair. -/
def one (t x y : Int) : Nat := if lk t x y = true then 1 else 0
theorem one_le (t x y : Int) : one t x y ≤ 1 := by unfold one; split <;> omega
theorem countL_nil (t : Int) (ys : List Int) : countL t [] ys = 1 := rfl
theorem countL_nil' (t : Int) (xs : List Int) : countL t xs [] = 1 := by
  induction xs with
  | nil => rfl
  | cons x xs ih => simp [countL, tailSum, ih]
theorem countL_rec (t x y : Int) (xs ys : List Int) : countL t (x :: xs) (y :: ys) + countL t xs ys = countL t xs (y :: ys) + countL t (x :: xs) ys + one t x y * countL t xs ys := by
  simp only [countL, tailSum, one]
  split <;> omega
theorem countL_pos (t : Int) (xs ys : List Int) : 1 ≤ countL t xs ys := by
  induction xs generalizing ys with
  | nil => exact Nat.le_refl _
  | cons x xs ih => have := ih ys; simp only [countL]; omega
theorem countL_comm (t : Int) (xs ys : List Int) : countL t xs ys = countL t ys xs := by
  induction xs generalizing ys with
  | nil => rw [countL_nil, countL_nil']
  | cons x xs ih =>
    induction ys with
    | nil => rw [countL_nil, countL_nil']
    | cons y ys ih2 =>
      have h1 := countL_rec t x y xs ys
      have h2 := countL_rec t y x ys xs
      have e1 := ih (y :: ys)
      have e2 := ih ys
      have e3 : one t x y = one t y x := by unfold one; rw [lk_comm]
      rw [e3, e1, e2, ih2] at h1
      omega
theorem tailSum_more {t s : Int} (h : t ≤ s) (f g : List Int → Nat) (hf : ∀ l, f l ≤ g l) (x : Int) (ys : List Int) : tailSum t f x ys ≤ tailSum s g x ys := by
  induction ys with
  | nil => exact Nat.le_refl _
  | cons y ys ih =>
    simp only [tailSum]
    have := hf ys
    by_cases hl : lk t x y = true
    · rw [if_pos hl, if_pos (lk_mono h hl)]; omega
    · rw [if_neg hl]; omega
theorem countL_more {t s : Int} (h : t ≤ s) (xs ys : List Int) : countL t xs ys ≤ countL s xs ys := by
  induction xs generalizing ys with
  | nil => exact Nat.le_refl _
  | cons x xs ih =>
    have h1 := ih ys
    have h2 := tailSum_more h (countL t xs) (countL s xs) (fun l => ih l) x ys
    simp only [countL]; omega
theorem mul_bit {p a b : Nat} (h : p ≤ 1) (h0 : p = 0 → b = 0) (h1 : p = 1 → b = a) : p * a = b := by
  rcases Nat.le_one_iff_eq_zero_or_eq_one.1 h with rfl | rfl
  · rw [h0 rfl, Nat.zero_mul]
  · rw [h1 rfl, Nat.one_mul]
theorem countL_snoc_rec (t e z : Int) (xs ys : List Int) :
    countL t (xs ++ [e]) (ys ++ [z]) + countL t xs ys = countL t xs (ys ++ [z]) + countL t (xs ++ [e]) ys + one t e z * countL t xs ys := by
  have hz := one_le t e z
  induction xs generalizing ys with
  | nil =>
    induction ys with
    | nil =>
      have := countL_rec t e z [] []
      simpa only [List.nil_append, countL_nil, countL_nil'] using this
    | cons y ys ih =>
      have h1 := countL_rec t e y [] (ys ++ [z])
      have h2 := countL_rec t e y [] ys
      simp only [List.nil_append, List.cons_append, countL_nil] at *
      omega
  | cons x xs ih =>
    induction ys with
    | nil =>
      have h1 := countL_rec t x z (xs ++ [e]) []
      have h2 := countL_rec t x z xs []
      have h3 := ih []
      simp only [List.nil_append, List.cons_append, countL_nil'] at *
      omega
    | cons y ys ih2 =>
      have h1 := countL_rec t x y (xs ++ [e]) (ys ++ [z])
      have h2 := countL_rec t x y xs ys
      have h3 := countL_rec t x y xs (ys ++ [z])
      have h4 := countL_rec t x y (xs ++ [e]) ys
      have i1 := ih (y :: ys)
      have i2 := ih ys
      simp only [List.cons_append] at *
      have hp := one_le t x y
      generalize one t x y = p at *
      generalize one t e z = q at *
      have hp' : p = 0 ∨ p = 1 := by omega
      have hq' : q = 0 ∨ q = 1 := by omega
      rcases hp' with rfl | rfl <;> rcases hq' with rfl | rfl <;> simp only [Nat.zero_mul, Nat.one_mul] at * <;> omega
/-- What the last of the left adds, over its partners up to place k. -/
def hsum (t : Int) (f : List Int → Nat) (x : Int) (ys : List Int) : Nat → Nat
  | 0 => 0
  | k + 1 => hsum t f x ys k + if lk t x (gI ys k) = true then f (ys.take k) else 0
theorem hsum_append (t : Int) (f : List Int → Nat) (x : Int) (ys zs : List Int) (k : Nat) (h : k ≤ ys.length) : hsum t f x (ys ++ zs) k = hsum t f x ys k := by
  induction k with
  | zero => rfl
  | succ k ih =>
    have e : gI (ys ++ zs) k = gI ys k := by rw [gI_lt (by simp; omega), gI_lt (by omega), List.getElem_append_left]
    rw [hsum, hsum, ih (by omega), e, List.take_append_of_le_length (by omega)]
theorem countL_last (t e : Int) (xs : List Int) (ys : List Int) : countL t (xs ++ [e]) ys = countL t xs ys + hsum t (countL t xs) e ys ys.length := by
  have h : ∀ rs : List Int, countL t (xs ++ [e]) rs.reverse = countL t xs rs.reverse + hsum t (countL t xs) e rs.reverse rs.reverse.length := by
    intro rs
    induction rs with
    | nil => simp [countL_nil', hsum]
    | cons z rs ih =>
      have h1 := countL_snoc_rec t e z xs rs.reverse
      rw [List.reverse_cons, List.length_append, List.length_singleton, hsum, hsum_append t _ e _ _ _ (Nat.le_refl _), List.take_left]
      have e1 : gI (rs.reverse ++ [z]) rs.reverse.length = z := by simp [gI]
      rw [e1]
      unfold one at h1
      split
      · rename_i hl
        rw [if_pos hl] at h1
        omega
      · rename_i hl
        rw [if_neg hl] at h1
        omega
  simpa using h ys.reverse
theorem countL_one (t : Int) (xs ys : List Int) : countL t xs ys = 1 ↔ mostL t xs ys = 0 := by
  have no : countL t xs ys = 1 ↔ ∀ x ∈ xs, ∀ y ∈ ys, lk t x y = false := by
    induction xs with
    | nil => simp [countL]
    | cons x xs ih =>
      have ht : tailSum t (countL t xs) x ys = 0 ↔ ∀ y ∈ ys, lk t x y = false := by
        clear ih
        induction ys with
        | nil => simp [tailSum]
        | cons y ys ih2 =>
          have := countL_pos t xs ys
          simp only [tailSum, List.mem_cons, forall_eq_or_imp, ← ih2]
          by_cases hl : lk t x y = true
          · rw [if_pos hl, hl]; simp; omega
          · rw [if_neg hl]; simp [hl]
      have hp := countL_pos t xs ys
      simp only [countL, List.mem_cons, forall_eq_or_imp, ← ht, ← ih]
      omega
  rw [no]
  constructor
  · intro h
    have key : ∀ {as bs : List Int} {n : Nat}, Mt t as bs n → (∀ x ∈ as, ∀ y ∈ bs, lk t x y = false) → n = 0 := by
      intro as bs n hm
      induction hm with
      | none xs ys => exact fun _ => rfl
      | left x _ ih => exact fun h => ih fun a ha => h a (List.mem_cons_of_mem _ ha)
      | right y _ ih => exact fun h => ih fun a ha b hb => h a ha b (List.mem_cons_of_mem _ hb)
      | @both xs ys n x y hl _ ih => exact fun h => by have := h x (by simp) y (by simp); rw [hl] at this; cases this
    exact key (mostL_mt t xs ys) h
  · intro h x hx y hy
    cases hl : lk t x y with
    | false => rfl
    | true =>
      obtain ⟨a1, a2, rfl⟩ := List.append_of_mem hx
      obtain ⟨b1, b2, rfl⟩ := List.append_of_mem hy
      have := mostL_max (((Mt.both hl (Mt.none a2 b2)).leftMany a1).rightMany b1)
      omega
/-- The number of all ways. -/
def psum (f : Nat → Nat) : Nat → Nat
  | 0 => f 0
  | m + 1 => psum f m + f (m + 1)
def pas : Nat → Nat → Nat
  | 0 => fun _ => 1
  | n + 1 => fun m => psum (pas n) m
theorem pas_nil (m : Nat) : pas 0 m = 1 := rfl
theorem pas_nil' (n : Nat) : pas n 0 = 1 := by
  induction n with
  | zero => rfl
  | succ n ih => exact ih
theorem pas_cons (n m : Nat) : pas (n + 1) (m + 1) = pas n (m + 1) + pas (n + 1) m := by
  show psum (pas n) m + pas n (m + 1) = pas n (m + 1) + psum (pas n) m
  omega
theorem countL_le (t : Int) (xs ys : List Int) : countL t xs ys ≤ pas xs.length ys.length := by
  induction xs generalizing ys with
  | nil => rw [countL_nil, List.length_nil, pas_nil]; exact Nat.le_refl _
  | cons x xs ih =>
    induction ys with
    | nil => rw [countL_nil', List.length_nil, pas_nil']; exact Nat.le_refl _
    | cons y ys ih2 =>
      have h1 := countL_rec t x y xs ys
      have h2 := ih (y :: ys)
      have h3 : one t x y * countL t xs ys ≤ countL t xs ys := by have := Nat.mul_le_mul_right (countL t xs ys) (one_le t x y); omega
      rw [List.length_cons, List.length_cons, pas_cons]
      rw [List.length_cons] at h2 ih2
      omega
theorem countL_all (t : Int) (xs ys : List Int) (h : ∀ x ∈ xs, ∀ y ∈ ys, lk t x y = true) : countL t xs ys = pas xs.length ys.length := by
  induction xs generalizing ys with
  | nil => rw [countL_nil, List.length_nil, pas_nil]
  | cons x xs ih =>
    induction ys with
    | nil => rw [countL_nil', List.length_nil, pas_nil']
    | cons y ys ih2 =>
      have h1 := countL_rec t x y xs ys
      have h2 := ih (y :: ys) fun a ha => h a (List.mem_cons_of_mem _ ha)
      have h3 := ih2 fun a ha b hb => h a ha b (List.mem_cons_of_mem _ hb)
      have h4 : one t x y = 1 := by unfold one; rw [if_pos (h x (by simp) y (by simp))]
      rw [h4, Nat.one_mul] at h1
      rw [List.length_cons, List.length_cons, pas_cons]
      rw [List.length_cons] at h2 h3
      omega
theorem pas_small : ∀ n, n < 9 → ∀ m, m < 9 → pas n m ≤ 12870 := by decide +kernel
theorem pas_step : ∀ n, n < 8 → ∀ m, m < 9 → pas n m * (m + (n + 1)) / (n + 1) = pas (n + 1) m := by decide +kernel

/-! ## the counts at two places of the lists, and while they are summed -/
def cAt (t : Int) (xs ys : List Int) (i k : Nat) : Nat := countL t (xs.drop i) (ys.drop k)
def pS (t : Int) (f : List Int → Nat) (x : Int) (ys : List Int) (k : Nat) : Nat → Nat
  | 0 => 0
  | d + 1 => pS t f x ys k d + if lk t x (gI ys (k + d)) = true then f (ys.drop (k + d + 1)) else 0
theorem pS_tail (t : Int) (f : List Int → Nat) (x : Int) (ys : List Int) (k d : Nat) (h : k + d ≤ ys.length) : pS t f x ys k d + tailSum t f x (ys.drop (k + d)) = tailSum t f x (ys.drop k) := by
  induction d with
  | zero => rw [pS, Nat.zero_add]; rfl
  | succ d ih =>
    have h1 := ih (by omega)
    rw [drop_gI (by omega : k + d < ys.length), tailSum] at h1
    rw [pS, ← h1, show k + (d + 1) = k + d + 1 by omega]
    omega
/-- The sum for two places, over the partners ahead of p. -/
def cVal (t : Int) (xs ys : List Int) (i k p : Nat) : Nat := cAt t xs ys (i + 1) k + pS t (countL t (xs.drop (i + 1))) (gI xs i) ys k (p - k)
section
variable {t : Int} {xs ys : List Int} {i k p : Nat}
theorem cVal_start : cVal t xs ys i k k = cAt t xs ys (i + 1) k := by unfold cVal; rw [Nat.sub_self]; rfl
theorem cVal_yes (hk : k ≤ p) (hl : lk t (gI xs i) (gI ys p) = true) : cVal t xs ys i k (p + 1) = cVal t xs ys i k p + cAt t xs ys (i + 1) (p + 1) := by
  unfold cVal cAt
  rw [show p + 1 - k = (p - k) + 1 by omega, pS, show k + (p - k) = p by omega, if_pos hl]
  omega
theorem cVal_no (hk : k ≤ p) (hl : lk t (gI xs i) (gI ys p) = false) : cVal t xs ys i k (p + 1) = cVal t xs ys i k p := by
  unfold cVal
  rw [show p + 1 - k = (p - k) + 1 by omega, pS, show k + (p - k) = p by omega, hl]
  simp
theorem cAt_sum (hi : i < xs.length) : cAt t xs ys i k = cAt t xs ys (i + 1) k + tailSum t (countL t (xs.drop (i + 1))) (gI xs i) (ys.drop k) := by
  unfold cAt; rw [drop_gI hi, countL]
theorem cVal_end (hi : i < xs.length) (hk : k ≤ ys.length) : cVal t xs ys i k ys.length = cAt t xs ys i k := by
  have h := pS_tail t (countL t (xs.drop (i + 1))) (gI xs i) ys k (ys.length - k) (by omega)
  rw [cAt_sum hi, ← h, show k + (ys.length - k) = ys.length by omega, List.drop_length, tailSum]
  rfl
theorem cVal_le (hi : i < xs.length) (hk : k ≤ p) (hp : p ≤ ys.length) : cVal t xs ys i k p ≤ cAt t xs ys i k := by
  have h := pS_tail t (countL t (xs.drop (i + 1))) (gI xs i) ys k (p - k) (by omega)
  rw [cAt_sum hi, ← h]
  unfold cVal
  omega
theorem cAt_left (h : xs.length ≤ i) : cAt t xs ys i k = 1 := by unfold cAt; rw [List.drop_eq_nil_of_le h]; rfl
theorem cAt_pos : 1 ≤ cAt t xs ys i k := countL_pos ..
theorem cAt_le (hx : xs.length ≤ 8) (hy : ys.length ≤ 8) : cAt t xs ys i k ≤ 12870 := by
  have h := countL_le t (xs.drop i) (ys.drop k)
  have := pas_small (xs.drop i).length (by rw [List.length_drop]; omega) (ys.drop k).length (by rw [List.length_drop]; omega)
  unfold cAt; omega
theorem hsum_le (e : Int) (hk : k ≤ ys.length) : countL t xs ys + hsum t (countL t xs) e ys k ≤ countL t (xs ++ [e]) ys := by
  rw [countL_last]
  have mono : ∀ d, hsum t (countL t xs) e ys k ≤ hsum t (countL t xs) e ys (k + d) := by
    intro d
    induction d with
    | zero => exact Nat.le_refl _
    | succ d ih => rw [← Nat.add_assoc, hsum]; omega
  have := mono (ys.length - k)
  rw [show k + (ys.length - k) = ys.length by omega] at this
  omega
end
end Go.Proofs.Ytihkdbgnoncgnaa
