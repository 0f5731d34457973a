/- Plain laws of ties (no program in sight): what ascending lists of pairs are, and what turning them and leading them through a second core does. No condition. -/
import Derived.Test.YtihkdbgnoncgnaaDepth
namespace Go.Proofs.Ytihkdbgnoncgnaa

def AscAt (l : List (Int × Int)) (k : Nat) : Bool :=
  depthOk (fA l k) && depthOk (fB l k) && (decide (k = 0) || (decide (fA l (k - 1) < fA l k) && decide (fB l (k - 1) < fB l k)))
def ascTo (l : List (Int × Int)) : Nat → Bool
  | 0 => true
  | k + 1 => ascTo l k && AscAt l k
def asc (l : List (Int × Int)) : Bool := ascTo l l.length
def tv (l : List (Int × Int)) : Bool := asc l && decide (l.length ≤ 12)
def swapL (l : List (Int × Int)) : List (Int × Int) := l.map fun p => (p.2, p.1)
def turnL (l : List (Int × Int)) : List (Int × Int) := if tv l = true then swapL l else []
def rowOf (x y : Int) (b : List (Int × Int)) : List (Int × Int) := b.filterMap fun u => if y = u.1 then some (x, u.2) else none
def thrOf (a b : List (Int × Int)) : List (Int × Int) := a.flatMap fun t => rowOf t.1 t.2 b
def thrL (a b : List (Int × Int)) : List (Int × Int) := if (tv a && tv b) = true then thrOf a b else []
def curOk (l : List (Int × Int)) : Bool := tv l && decide (2 ≤ l.length)
def curL (l : List (Int × Int)) : List (Int × Int) := if curOk l = true then l else []
def Less2 (p q : Int × Int) : Prop := p.1 < q.1 ∧ p.2 < q.2

/-! ## steps of the loops -/
theorem asc_stop {l : List (Int × Int)} {k : Nat} (hk : k < l.length) (h : AscAt l k = false) : asc l = false := by
  have step : ∀ n, k < n → ascTo l n = false := by
    intro n hn
    induction n with
    | zero => omega
    | succ n ih =>
      unfold ascTo
      by_cases e : k = n
      · subst e; rw [h]; simp
      · rw [ih (by omega)]; simp
  exact step _ hk
theorem take_succ_pair (l : List (Int × Int)) (k : Nat) (h : k < l.length) : l.take (k + 1) = l.take k ++ [(fA l k, fB l k)] := by
  rw [List.take_succ_eq_append_getElem h, fA_lt h, fB_lt h]
theorem take_succ_int (l : List Int) (k : Nat) (h : k < l.length) : l.take (k + 1) = l.take k ++ [gI l k] := by
  rw [List.take_succ_eq_append_getElem h, gI_lt h]
theorem swapL_take (l : List (Int × Int)) (k : Nat) (h : k < l.length) : swapL (l.take (k + 1)) = swapL (l.take k) ++ [(fB l k, fA l k)] := by
  rw [take_succ_pair l k h]; simp [swapL]
theorem length_swapL (l : List (Int × Int)) : (swapL l).length = l.length := by simp [swapL]
theorem swapL_swapL (l : List (Int × Int)) : swapL (swapL l) = l := by
  unfold swapL; rw [List.map_map]; exact (List.map_congr_left (fun p _ => rfl)).trans (List.map_id l)
theorem rowOf_take (x y : Int) (b : List (Int × Int)) (k : Nat) (h : k < b.length) :
    rowOf x y (b.take (k + 1)) = rowOf x y (b.take k) ++ if y = fA b k then [(x, fB b k)] else [] := by
  rw [take_succ_pair b k h]
  by_cases e : y = fA b k <;> simp [rowOf, e]
theorem rowOf_hit (x y : Int) (b : List (Int × Int)) (k : Nat) (h : k < b.length) (e : y = fA b k) : rowOf x y (b.take (k + 1)) = rowOf x y (b.take k) ++ [(x, fB b k)] := by
  rw [rowOf_take x y b k h, if_pos e]
theorem rowOf_miss (x y : Int) (b : List (Int × Int)) (k : Nat) (h : k < b.length) (e : y ≠ fA b k) : rowOf x y (b.take (k + 1)) = rowOf x y (b.take k) := by
  rw [rowOf_take x y b k h, if_neg e, List.append_nil]
theorem thrOf_append (a a' b : List (Int × Int)) : thrOf (a ++ a') b = thrOf a b ++ thrOf a' b := by simp [thrOf]
theorem thrOf_take (a b : List (Int × Int)) (i : Nat) (h : i < a.length) : thrOf (a.take (i + 1)) b = thrOf (a.take i) b ++ rowOf (fA a i) (fB a i) b := by
  rw [take_succ_pair a i h, thrOf_append]; simp [thrOf]
theorem length_rowOf_le (x y : Int) (b : List (Int × Int)) : (rowOf x y b).length ≤ b.length := by
  unfold rowOf; exact List.length_filterMap_le _ _
theorem length_thrOf_le (a b : List (Int × Int)) : (thrOf a b).length ≤ a.length * b.length := by
  induction a with
  | nil => simp [thrOf]
  | cons t a ih =>
    have e : thrOf (t :: a) b = rowOf t.1 t.2 b ++ thrOf a b := by simp [thrOf]
    have := length_rowOf_le t.1 t.2 b
    rw [e, List.length_append, List.length_cons, Nat.succ_mul]
    omega

/-! ## ascending lists -/
theorem pw_mono {α : Type} {R S : α → α → Prop} (h : ∀ a b, R a b → S a b) : ∀ {l : List α}, l.Pairwise R → l.Pairwise S
  | [], _ => List.Pairwise.nil
  | x :: l, hl => by
    rw [List.pairwise_cons] at hl ⊢
    exact ⟨fun y hy => h _ _ (hl.1 y hy), pw_mono h hl.2⟩
theorem asc_iff_at (l : List (Int × Int)) : asc l = true ↔ ∀ k, k < l.length → AscAt l k = true := by
  have h : ∀ n, ascTo l n = true ↔ ∀ k, k < n → AscAt l k = true := by
    intro n
    induction n with
    | zero => simp [ascTo]
    | succ n ih =>
      simp only [ascTo, Bool.and_eq_true, ih]
      constructor
      · intro ⟨h1, h2⟩ k hk
        by_cases e : k = n
        · subst e; exact h2
        · exact h1 k (by omega)
      · intro h1
        exact ⟨fun k hk => h1 k (by omega), h1 n (by omega)⟩
  exact h _
theorem asc_iff (l : List (Int × Int)) : asc l = true ↔ (∀ p ∈ l, depthOk p.1 = true ∧ depthOk p.2 = true) ∧ l.Pairwise Less2 := by
  rw [asc_iff_at]
  constructor
  · intro h
    refine ⟨fun p hp => ?_, ?_⟩
    · obtain ⟨k, hk, rfl⟩ := List.getElem_of_mem hp
      have := h k hk
      simp only [AscAt, Bool.and_eq_true] at this
      rw [fA_lt hk, fB_lt hk] at this
      exact this.1
    · rw [List.pairwise_iff_getElem]
      intro i j hi hj hij
      induction j with
      | zero => omega
      | succ j ih =>
        have hs := h (j + 1) hj
        simp only [AscAt, Bool.and_eq_true, Bool.or_eq_true, decide_eq_true_eq, Nat.add_sub_cancel] at hs
        rw [fA_lt hj, fB_lt hj, fA_lt (show j < l.length by omega), fB_lt (show j < l.length by omega)] at hs
        have hs2 := hs.2.resolve_left (by omega)
        by_cases e : i = j
        · subst e; exact hs2
        · have hr := ih (by omega) (by omega)
          exact ⟨by have := hr.1; omega, by have := hr.2; omega⟩
  · intro ⟨h1, h2⟩ k hk
    rw [List.pairwise_iff_getElem] at h2
    have hm := h1 _ (List.getElem_mem hk)
    simp only [AscAt, Bool.and_eq_true, Bool.or_eq_true, decide_eq_true_eq]
    rw [fA_lt hk, fB_lt hk]
    refine ⟨hm, ?_⟩
    by_cases e : k = 0
    · exact .inl e
    · have hr := h2 (k - 1) k (by omega) hk (by omega)
      rw [fA_lt (show k - 1 < l.length by omega), fB_lt (show k - 1 < l.length by omega)]
      exact .inr hr
theorem tv_iff (l : List (Int × Int)) : tv l = true ↔ (∀ p ∈ l, depthOk p.1 = true ∧ depthOk p.2 = true) ∧ l.Pairwise Less2 ∧ l.length ≤ 12 := by
  unfold tv
  rw [Bool.and_eq_true, asc_iff, decide_eq_true_eq, and_assoc]
theorem tv_len {l : List (Int × Int)} (h : tv l = true) : l.length ≤ 12 := ((tv_iff l).1 h).2.2
theorem tv_nil : tv [] = true := by decide
theorem tv_take {l : List (Int × Int)} (h : tv l = true) (k : Nat) : tv (l.take k) = true := by
  rw [tv_iff] at h ⊢
  exact ⟨fun p hp => h.1 p (List.mem_of_mem_take hp), h.2.1.sublist (List.take_sublist _ _), by rw [List.length_take]; have := h.2.2; omega⟩
theorem tv_drop {l : List (Int × Int)} (h : tv l = true) (k : Nat) : tv (l.drop k) = true := by
  rw [tv_iff] at h ⊢
  exact ⟨fun p hp => h.1 p (List.mem_of_mem_drop hp), h.2.1.sublist (List.drop_sublist _ _), by rw [List.length_drop]; have := h.2.2; omega⟩
theorem tv_twice (l : List (Int × Int)) (p : Int × Int) : tv (l ++ [p, p]) = false := by
  cases h : tv (l ++ [p, p]) with
  | false => rfl
  | true =>
    have := ((tv_iff _).1 h).2.1
    rw [List.pairwise_append] at this
    have h2 := this.2.1
    simp only [List.pairwise_cons, List.mem_singleton, forall_eq] at h2
    exact absurd h2.1.1 (by omega)
theorem tv_swapL (l : List (Int × Int)) : tv (swapL l) = tv l := by
  rw [Bool.eq_iff_iff, tv_iff, tv_iff]
  have h : (swapL l).Pairwise Less2 ↔ l.Pairwise Less2 := by
    unfold swapL
    rw [List.pairwise_map]
    constructor <;> intro h <;> exact pw_mono (fun _ _ hh => ⟨hh.2, hh.1⟩) h
  rw [h, length_swapL]
  constructor
  · intro ⟨h1, h2, h3⟩
    exact ⟨fun p hp => (h1 (p.2, p.1) (List.mem_map.2 ⟨p, hp, rfl⟩)).symm, h2, h3⟩
  · intro ⟨h1, h2, h3⟩
    refine ⟨fun p hp => ?_, h2, h3⟩
    obtain ⟨q, hq, rfl⟩ := List.mem_map.1 hp
    exact (h1 q hq).symm
theorem turnL_len (l : List (Int × Int)) : (turnL l).length ≤ l.length := by
  unfold turnL; split <;> simp [length_swapL]

/-- Two strictly ascending lists with the same members are one. -/
theorem eq_of_mem_iff {α : Type} {R : α → α → Prop} (hasy : ∀ x y, R x y → R y x → False) : ∀ {l m : List α}, l.Pairwise R → m.Pairwise R → (∀ x, x ∈ l ↔ x ∈ m) → l = m
  | [], [], _, _, _ => rfl
  | [], y :: m, _, _, h => absurd ((h y).2 List.mem_cons_self) (by simp)
  | x :: l, [], _, _, h => absurd ((h x).1 List.mem_cons_self) (by simp)
  | x :: l, y :: m, hl, hm, h => by
    rw [List.pairwise_cons] at hl hm
    have hxy : x = y := by
      rcases List.mem_cons.1 ((h x).1 List.mem_cons_self) with e | e
      · exact e
      · rcases List.mem_cons.1 ((h y).2 List.mem_cons_self) with e' | e'
        · exact e'.symm
        · exact (hasy _ _ (hm.1 x e) (hl.1 y e')).elim
    subst hxy
    have ht : l = m := eq_of_mem_iff hasy hl.2 hm.2 fun z => by
      constructor
      · intro hz
        rcases List.mem_cons.1 ((h z).1 (List.mem_cons_of_mem _ hz)) with e | e
        · subst e; exact (hasy _ _ (hl.1 z hz) (hl.1 z hz)).elim
        · exact e
      · intro hz
        rcases List.mem_cons.1 ((h z).2 (List.mem_cons_of_mem _ hz)) with e | e
        · subst e; exact (hasy _ _ (hm.1 z hz) (hm.1 z hz)).elim
        · exact e
    rw [ht]
theorem Less2.asymm_ (x y : Int × Int) (h : Less2 x y) (h' : Less2 y x) : False := by have := h.1; have := h'.1; omega

/-- Members of an ascending list compare in both fields alike. -/
theorem asc_cases {l : List (Int × Int)} (h : l.Pairwise Less2) {p q : Int × Int} (hp : p ∈ l) (hq : q ∈ l) : p = q ∨ Less2 p q ∨ Less2 q p := by
  induction l with
  | nil => simp at hp
  | cons x l ih =>
    rw [List.pairwise_cons] at h
    rcases List.mem_cons.1 hp with rfl | hp'
    · rcases List.mem_cons.1 hq with rfl | hq'
      · exact .inl rfl
      · exact .inr (.inl (h.1 q hq'))
    · rcases List.mem_cons.1 hq with rfl | hq'
      · exact .inr (.inr (h.1 p hp'))
      · exact ih h.2 hp' hq'

theorem mem_rowOf {x y : Int} {b : List (Int × Int)} {p : Int × Int} : p ∈ rowOf x y b ↔ p.1 = x ∧ (y, p.2) ∈ b := by
  unfold rowOf
  rw [List.mem_filterMap]
  constructor
  · rintro ⟨u, hu, he⟩
    split at he
    · rename_i e
      injection he with he
      subst he
      exact ⟨rfl, by subst e; exact hu⟩
    · cases he
  · rintro ⟨h1, h2⟩
    exact ⟨(y, p.2), h2, by simp [← h1]⟩
theorem mem_thrOf {a b : List (Int × Int)} {p : Int × Int} : p ∈ thrOf a b ↔ ∃ y, (p.1, y) ∈ a ∧ (y, p.2) ∈ b := by
  unfold thrOf
  rw [List.mem_flatMap]
  constructor
  · rintro ⟨t, ht, hp⟩
    rw [mem_rowOf] at hp
    exact ⟨t.2, by rw [hp.1]; exact ht, hp.2⟩
  · rintro ⟨y, h1, h2⟩
    exact ⟨(p.1, y), h1, mem_rowOf.2 ⟨rfl, h2⟩⟩
theorem row_pairwise {x y : Int} {b : List (Int × Int)} (hb : b.Pairwise Less2) : (rowOf x y b).Pairwise Less2 := by
  unfold rowOf
  rw [List.pairwise_filterMap]
  refine pw_mono (fun u v h => ?_) hb
  intro p hp q hq
  split at hp
  · split at hq
    · have := h.1; omega
    · cases hq
  · cases hp
theorem thr_pairwise {a b : List (Int × Int)} (ha : a.Pairwise Less2) (hb : b.Pairwise Less2) : (thrOf a b).Pairwise Less2 := by
  unfold thrOf
  rw [List.pairwise_flatMap]
  refine ⟨fun t _ => row_pairwise hb, pw_mono (fun s t h => ?_) ha⟩
  intro p hp q hq
  rw [mem_rowOf] at hp hq
  refine ⟨by rw [hp.1, hq.1]; exact h.1, ?_⟩
  have h2 : s.2 < t.2 := h.2
  rcases asc_cases hb hp.2 hq.2 with e | e | e
  · have := congrArg Prod.fst e; simp at this; omega
  · exact e.2
  · have := e.1; simp at this; omega
theorem length_row_le_one {x y : Int} {b : List (Int × Int)} (hb : b.Pairwise Less2) : (rowOf x y b).length ≤ 1 := by
  have h := row_pairwise (x := x) (y := y) hb
  match hr : rowOf x y b with
  | [] => simp
  | [_] => simp
  | p :: q :: r =>
    rw [hr] at h
    have hp : p ∈ rowOf x y b := by rw [hr]; simp
    have hq : q ∈ rowOf x y b := by rw [hr]; simp
    rw [mem_rowOf] at hp hq
    rw [List.pairwise_cons] at h
    have := (h.1 q (by simp)).1
    omega
theorem length_thr_left {a b : List (Int × Int)} (hb : b.Pairwise Less2) : (thrOf a b).length ≤ a.length := by
  induction a with
  | nil => simp [thrOf]
  | cons t a ih =>
    have e : thrOf (t :: a) b = rowOf t.1 t.2 b ++ thrOf a b := by simp [thrOf]
    have := length_row_le_one (x := t.1) (y := t.2) hb
    rw [e, List.length_append, List.length_cons]
    omega
theorem pairwise_swapL {l : List (Int × Int)} (h : l.Pairwise Less2) : (swapL l).Pairwise Less2 := by
  unfold swapL
  rw [List.pairwise_map]
  exact pw_mono (fun _ _ hh => ⟨hh.2, hh.1⟩) h
theorem mem_swapL {l : List (Int × Int)} {p : Int × Int} : p ∈ swapL l ↔ (p.2, p.1) ∈ l := by
  unfold swapL
  rw [List.mem_map]
  constructor
  · rintro ⟨q, hq, rfl⟩; exact hq
  · intro h; exact ⟨_, h, rfl⟩
theorem thr_turn {a b : List (Int × Int)} (ha : a.Pairwise Less2) (hb : b.Pairwise Less2) : thrOf (swapL b) (swapL a) = swapL (thrOf a b) := by
  refine eq_of_mem_iff Less2.asymm_ (thr_pairwise (pairwise_swapL hb) (pairwise_swapL ha)) (pairwise_swapL (thr_pairwise ha hb)) fun p => ?_
  rw [mem_thrOf, mem_swapL, mem_thrOf]
  constructor
  · rintro ⟨y, h1, h2⟩; exact ⟨y, mem_swapL.1 h2, mem_swapL.1 h1⟩
  · rintro ⟨y, h1, h2⟩; exact ⟨y, mem_swapL.2 h2, mem_swapL.2 h1⟩
theorem length_thr_right {a b : List (Int × Int)} (ha : a.Pairwise Less2) (hb : b.Pairwise Less2) : (thrOf a b).length ≤ b.length := by
  have h := length_thr_left (a := swapL b) (pairwise_swapL ha)
  rw [thr_turn ha hb, length_swapL, length_swapL] at h
  exact h
theorem tv_thr {a b : List (Int × Int)} (ha : tv a = true) (hb : tv b = true) : tv (thrOf a b) = true := by
  rw [tv_iff] at ha hb ⊢
  refine ⟨fun p hp => ?_, thr_pairwise ha.2.1 hb.2.1, by have := length_thr_left (a := a) hb.2.1; omega⟩
  obtain ⟨y, h1, h2⟩ := mem_thrOf.1 hp
  exact ⟨(ha.1 _ h1).1, (hb.1 _ h2).2⟩
theorem thr_assoc {a b c : List (Int × Int)} (ha : a.Pairwise Less2) (hb : b.Pairwise Less2) (hc : c.Pairwise Less2) : thrOf (thrOf a b) c = thrOf a (thrOf b c) := by
  refine eq_of_mem_iff Less2.asymm_ (thr_pairwise (thr_pairwise ha hb) hc) (thr_pairwise ha (thr_pairwise hb hc)) fun p => ?_
  simp only [mem_thrOf]
  constructor
  · rintro ⟨y, ⟨z, h1, h2⟩, h3⟩; exact ⟨z, h1, y, h2, h3⟩
  · rintro ⟨z, h1, y, h2, h3⟩; exact ⟨y, ⟨z, h1, h2⟩, h3⟩
theorem thr_self {a : List (Int × Int)} (ha : a.Pairwise Less2) : thrOf a (swapL a) = a.map fun p => (p.1, p.1) := by
  refine eq_of_mem_iff Less2.asymm_ (thr_pairwise ha (pairwise_swapL ha)) ?_ fun p => ?_
  · rw [List.pairwise_map]; exact pw_mono (fun _ _ h => ⟨h.1, h.1⟩) ha
  · rw [mem_thrOf, List.mem_map]
    constructor
    · rintro ⟨y, h1, h2⟩
      rw [mem_swapL] at h2
      refine ⟨_, h1, ?_⟩
      rcases asc_cases ha h1 h2 with e | e | e
      · have := congrArg Prod.fst e; simp at this; ext <;> simp [this]
      · have := e.2; simp at this
      · have := e.2; simp at this
    · rintro ⟨q, hq, rfl⟩
      exact ⟨q.2, hq, mem_swapL.2 hq⟩

end Go.Proofs.Ytihkdbgnoncgnaa
