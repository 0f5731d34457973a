/- Plain laws of joined ties (no program in sight): two lists sorted together with equal ones once, and when that ascends. No condition. -/
import Derived.Test.YtihkdbgnoncgnaaTiesMore
namespace Go.Proofs.Ytihkdbgnoncgnaa

/-! ## sorted together -/
def Lex2 (p q : Int × Int) : Prop := p.1 < q.1 ∨ (p.1 = q.1 ∧ p.2 < q.2)
def lexB (p q : Int × Int) : Bool := decide (p.1 < q.1) || (decide (p.1 = q.1) && decide (p.2 < q.2))
theorem lexB_iff (p q : Int × Int) : lexB p q = true ↔ Lex2 p q := by simp [lexB, Lex2]
theorem lexB_no (p q : Int × Int) : lexB p q = false ↔ ¬ Lex2 p q := by rw [← lexB_iff]; simp
def sortL (l : List (Int × Int)) : List (Int × Int) := l.mergeSort fun x y => !lexB y x
theorem sortL_perm (l : List (Int × Int)) : (sortL l).Perm l := List.mergeSort_perm _ _
theorem sortL_len (l : List (Int × Int)) : (sortL l).length = l.length := (sortL_perm l).length_eq
theorem mem_sortL {l : List (Int × Int)} {p : Int × Int} : p ∈ sortL l ↔ p ∈ l := (sortL_perm l).mem_iff
theorem sortL_pw (l : List (Int × Int)) : (sortL l).Pairwise fun x y => ¬ Lex2 y x := by
  refine pw_mono (fun x y h => ?_) (List.pairwise_mergeSort (le := fun x y => !lexB y x) ?_ ?_ l)
  · rw [← lexB_no]; simpa using h
  · intro x y z h1 h2
    simp only [Bool.not_eq_true', lexB_no, Lex2] at h1 h2 ⊢
    omega
  · intro x y
    by_cases h : Lex2 y x
    · have h2 : lexB x y = false := (lexB_no _ _).2 (by unfold Lex2 at h ⊢; omega)
      simp [h2]
    · have h2 : lexB y x = false := (lexB_no _ _).2 h
      simp [h2]
def pA (l : List (Int × Int)) (k : Nat) : Int × Int := (fA l k, fB l k)
theorem pA_lt {l : List (Int × Int)} {k : Nat} (h : k < l.length) : pA l k = l[k] := by unfold pA; rw [fA_lt h, fB_lt h]
/-- The first k places, equal neighbours once. -/
def cpT (l : List (Int × Int)) : Nat → List (Int × Int)
  | 0 => []
  | k + 1 => if k ≠ 0 ∧ pA l k = pA l (k - 1) then cpT l k else cpT l k ++ [pA l k]
theorem cpT_len (l : List (Int × Int)) : ∀ k, (cpT l k).length ≤ k
  | 0 => Nat.le_refl _
  | k + 1 => by
    have := cpT_len l k
    rw [cpT]; split
    · omega
    · simp; omega
theorem cpT_mem (l : List (Int × Int)) (p : Int × Int) : ∀ k, k ≤ l.length → (p ∈ cpT l k ↔ p ∈ l.take k)
  | 0, _ => by simp [cpT]
  | k + 1, hk => by
    have ih := cpT_mem l p k (by omega)
    rw [take_succ_pair l k (by omega), List.mem_append, List.mem_singleton, cpT]
    split
    · rename_i h
      rw [ih]
      constructor
      · exact .inl
      · rintro (h1 | h1)
        · exact h1
        · have e : p = l[k - 1] := by rw [h1, ← pA_lt (show k - 1 < l.length by omega), ← h.2]; rfl
          rw [e, List.mem_take_iff_getElem]
          exact ⟨k - 1, by omega, rfl⟩
    · rw [List.mem_append, List.mem_singleton, ih]; rfl
theorem cpT_pw {l : List (Int × Int)} (h : l.Pairwise fun x y => ¬ Lex2 y x) : ∀ k, k ≤ l.length → (cpT l k).Pairwise Lex2
  | 0, _ => List.Pairwise.nil
  | k + 1, hk => by
    have ih := cpT_pw h k (by omega)
    rw [cpT]; split
    · exact ih
    · rename_i hne
      rw [List.pairwise_append]
      refine ⟨ih, List.pairwise_singleton _ _, fun x hx y hy => ?_⟩
      rw [List.mem_singleton] at hy
      subst hy
      rw [cpT_mem l x k (by omega), List.mem_take_iff_getElem] at hx
      obtain ⟨i, hi, rfl⟩ := hx
      rw [List.pairwise_iff_getElem] at h
      have h1 : ¬ Lex2 l[k - 1] l[i] := by
        by_cases e : i = k - 1
        · subst e; unfold Lex2; omega
        · exact h i (k - 1) (by omega) (by omega) (by omega)
      have h2 : ¬ Lex2 l[k] l[k - 1] := h (k - 1) k (by omega) (by omega) (by omega)
      rw [pA_lt (by omega), pA_lt (show k - 1 < l.length by omega)] at hne
      rw [pA_lt (by omega)]
      have h3 : ¬ (l[k].1 = l[k - 1].1 ∧ l[k].2 = l[k - 1].2) := fun h3 => hne ⟨by omega, Prod.ext h3.1 h3.2⟩
      unfold Lex2 at h1 h2 ⊢
      omega
def allV (a b : List (Int × Int)) : List (Int × Int) := cpT (sortL (a ++ b)) (sortL (a ++ b)).length
theorem allV_len (a b : List (Int × Int)) : (allV a b).length ≤ a.length + b.length := by
  have := cpT_len (sortL (a ++ b)) (sortL (a ++ b)).length
  rw [sortL_len, List.length_append] at this
  unfold allV
  rw [sortL_len, List.length_append]; exact this
theorem mem_allV {a b : List (Int × Int)} {p : Int × Int} : p ∈ allV a b ↔ p ∈ a ∨ p ∈ b := by
  unfold allV
  rw [cpT_mem _ _ _ (Nat.le_refl _), List.take_length, mem_sortL, List.mem_append]
theorem allV_pw (a b : List (Int × Int)) : (allV a b).Pairwise Lex2 := cpT_pw (sortL_pw _) _ (Nat.le_refl _)
theorem Lex2.asymm_ (x y : Int × Int) (h : Lex2 x y) (h' : Lex2 y x) : False := by unfold Lex2 at h h'; omega
theorem lex_of_less {l : List (Int × Int)} (h : l.Pairwise Less2) : l.Pairwise Lex2 := pw_mono (fun _ _ h => .inl h.1) h
/-- What is sorted together is the only ascending list of the members of both. -/
theorem allV_eq {a b l : List (Int × Int)} (hl : l.Pairwise Less2) (hm : ∀ p, p ∈ l ↔ p ∈ a ∨ p ∈ b) : allV a b = l :=
  eq_of_mem_iff Lex2.asymm_ (allV_pw a b) (lex_of_less hl) fun p => by rw [mem_allV, hm]

/-! ## when both together ascend -/
def compat (a b : List (Int × Int)) : Prop := ∀ p ∈ a, ∀ q ∈ b, p = q ∨ Less2 p q ∨ Less2 q p
theorem pw_mem {α : Type} {R S : α → α → Prop} : ∀ {l : List α}, (∀ a ∈ l, ∀ b ∈ l, R a b → S a b) → l.Pairwise R → l.Pairwise S
  | [], _, _ => List.Pairwise.nil
  | x :: l, h, hl => by
    rw [List.pairwise_cons] at hl ⊢
    exact ⟨fun y hy => h _ (by simp) _ (by simp [hy]) (hl.1 y hy), pw_mem (fun a ha b hb => h a (by simp [ha]) b (by simp [hb])) hl.2⟩
theorem compat_comm {a b : List (Int × Int)} (h : compat a b) : compat b a := fun p hp q hq => by
  rcases h q hq p hp with e | e | e
  · exact .inl e.symm
  · exact .inr (.inr e)
  · exact .inr (.inl e)
theorem compat_of {a b l : List (Int × Int)} (hl : l.Pairwise Less2) (ha : ∀ p ∈ a, p ∈ l) (hb : ∀ p ∈ b, p ∈ l) : compat a b := fun p hp q hq => asc_cases hl (ha p hp) (hb q hq)
theorem tv_pw {l : List (Int × Int)} (h : tv l = true) : l.Pairwise Less2 := ((tv_iff l).1 h).2.1
theorem tv_asc {l : List (Int × Int)} (h : tv l = true) : asc l = true := by unfold tv at h; rw [Bool.and_eq_true] at h; exact h.1
theorem asc_allV {a b : List (Int × Int)} (ha : tv a = true) (hb : tv b = true) : asc (allV a b) = true ↔ compat a b := by
  constructor
  · intro h
    exact compat_of ((asc_iff _).1 h).2 (fun p hp => mem_allV.2 (.inl hp)) (fun p hp => mem_allV.2 (.inr hp))
  · intro h
    have ha' := (tv_iff a).1 ha
    have hb' := (tv_iff b).1 hb
    refine (asc_iff _).2 ⟨fun p hp => ?_, pw_mem (fun x hx y hy hxy => ?_) (allV_pw a b)⟩
    · rcases mem_allV.1 hp with hp | hp
      · exact ha'.1 p hp
      · exact hb'.1 p hp
    · have h3 : x = y ∨ Less2 x y ∨ Less2 y x := by
        rcases mem_allV.1 hx with hx | hx
        · rcases mem_allV.1 hy with hy | hy
          · exact asc_cases ha'.2.1 hx hy
          · exact h x hx y hy
        · rcases mem_allV.1 hy with hy | hy
          · exact compat_comm h x hx y hy
          · exact asc_cases hb'.2.1 hx hy
      rcases h3 with e | e | e
      · subst e; exact (Lex2.asymm_ x x hxy hxy).elim
      · exact e
      · exact (Lex2.asymm_ x y hxy (.inl e.1)).elim
def fitV (a b : List (Int × Int)) : Bool := tv a && tv b && asc (allV a b)
theorem fitV_iff {a b : List (Int × Int)} : fitV a b = true ↔ tv a = true ∧ tv b = true ∧ compat a b := by
  unfold fitV
  rw [Bool.and_eq_true, Bool.and_eq_true, and_assoc]
  constructor
  · rintro ⟨h1, h2, h3⟩; exact ⟨h1, h2, (asc_allV h1 h2).1 h3⟩
  · rintro ⟨h1, h2, h3⟩; exact ⟨h1, h2, (asc_allV h1 h2).2 h3⟩
def jOk (a b : List (Int × Int)) : Bool := fitV a b && decide ((allV a b).length ≤ 12)
def jL (a b : List (Int × Int)) : List (Int × Int) := if jOk a b = true then allV a b else []

/-! ## merged -/
def mg : List (Int × Int) → List (Int × Int) → List (Int × Int)
  | [], b => b
  | x :: a, [] => x :: a
  | x :: a, y :: b => if x.1 < y.1 then x :: mg a (y :: b) else if y.1 < x.1 ∨ x ≠ y then y :: mg (x :: a) b else x :: mg a b
termination_by a b => a.length + b.length
theorem mg_nil (a : List (Int × Int)) : mg a [] = a := by cases a <;> rw [mg]
theorem mg_len : ∀ (a b : List (Int × Int)), (mg a b).length ≤ a.length + b.length
  | [], b => by rw [mg]; simp
  | x :: a, [] => by rw [mg]; simp
  | x :: a, y :: b => by
    have h1 := mg_len a (y :: b)
    have h2 := mg_len (x :: a) b
    have h3 := mg_len a b
    simp only [List.length_cons] at h1 h2 ⊢
    rw [mg]; split
    · simp only [List.length_cons]; omega
    · split <;> simp only [List.length_cons] <;> omega
termination_by a b => a.length + b.length
theorem mem_mg {p : Int × Int} : ∀ (a b : List (Int × Int)), p ∈ mg a b ↔ p ∈ a ∨ p ∈ b
  | [], b => by rw [mg]; simp
  | x :: a, [] => by rw [mg]; simp
  | x :: a, y :: b => by
    have h1 := mem_mg a (y :: b) (p := p)
    have h2 := mem_mg (x :: a) b (p := p)
    have h3 := mem_mg a b (p := p)
    rw [mg]; split
    · rw [List.mem_cons, h1, List.mem_cons, List.mem_cons, or_assoc]
    · split
      · rw [List.mem_cons, h2, List.mem_cons, List.mem_cons]
        constructor
        · rintro (h | (h | h) | h)
          · exact .inr (.inl h)
          · exact .inl (.inl h)
          · exact .inl (.inr h)
          · exact .inr (.inr h)
        · rintro ((h | h) | h | h)
          · exact .inr (.inl (.inl h))
          · exact .inr (.inl (.inr h))
          · exact .inl h
          · exact .inr (.inr h)
      · rename_i h
        have e : x = y := by
          by_cases e : x = y
          · exact e
          · exact absurd (.inr e) h
        subst e
        rw [List.mem_cons, h3, List.mem_cons, List.mem_cons]
        constructor
        · rintro (h | h | h)
          · exact .inl (.inl h)
          · exact .inl (.inr h)
          · exact .inr (.inr h)
        · rintro ((h | h) | h | h)
          · exact .inl h
          · exact .inr (.inl h)
          · exact .inl h
          · exact .inr (.inr h)
termination_by a b => a.length + b.length
theorem mg_pw : ∀ (a b : List (Int × Int)), a.Pairwise Less2 → b.Pairwise Less2 → compat a b → (mg a b).Pairwise Less2
  | [], b, _, hb, _ => by rw [mg]; exact hb
  | x :: a, [], ha, _, _ => by rw [mg]; exact ha
  | x :: a, y :: b, ha, hb, hc => by
    have ha' := List.pairwise_cons.1 ha
    have hb' := List.pairwise_cons.1 hb
    have hxy := hc x (by simp) y (by simp)
    have h1 := mg_pw a (y :: b) ha'.2 hb fun p hp q hq => hc p (by simp [hp]) q hq
    have h2 := mg_pw (x :: a) b ha hb'.2 fun p hp q hq => hc p hp q (by simp [hq])
    have h3 := mg_pw a b ha'.2 hb'.2 fun p hp q hq => hc p (by simp [hp]) q (by simp [hq])
    have hyx : ∀ z ∈ a, Less2 y x → Less2 y z := fun z hz h => ⟨by have := (ha'.1 z hz).1; have := h.1; omega, by have := (ha'.1 z hz).2; have := h.2; omega⟩
    have hxz : ∀ z ∈ b, Less2 x y → Less2 x z := fun z hz h => ⟨by have := (hb'.1 z hz).1; have := h.1; omega, by have := (hb'.1 z hz).2; have := h.2; omega⟩
    rw [mg]; split
    · rename_i h
      have hl : Less2 x y := by
        rcases hxy with e | e | e
        · subst e; omega
        · exact e
        · have := e.1; omega
      refine List.pairwise_cons.2 ⟨fun z hz => ?_, h1⟩
      rcases (mem_mg _ _).1 hz with hz | hz
      · exact ha'.1 z hz
      · rcases List.mem_cons.1 hz with rfl | hz
        · exact hl
        · exact hxz z hz hl
    · split
      · rename_i h0 h
        have hl : Less2 y x := by
          rcases hxy with e | e | e
          · subst e; simp at h
          · exact absurd e.1 h0
          · exact e
        refine List.pairwise_cons.2 ⟨fun z hz => ?_, h2⟩
        rcases (mem_mg _ _).1 hz with hz | hz
        · rcases List.mem_cons.1 hz with rfl | hz
          · exact hl
          · exact hyx z hz hl
        · exact hb'.1 z hz
      · rename_i h0 h
        have e : x = y := by
          by_cases e : x = y
          · exact e
          · exact absurd (.inr e) h
        refine List.pairwise_cons.2 ⟨fun z hz => ?_, h3⟩
        rcases (mem_mg _ _).1 hz with hz | hz
        · exact ha'.1 z hz
        · rw [e]; exact hb'.1 z hz
termination_by a b => a.length + b.length
theorem asc_mg {a b : List (Int × Int)} (ha : tv a = true) (hb : tv b = true) : asc (mg a b) = true ↔ compat a b := by
  constructor
  · intro h
    exact compat_of ((asc_iff _).1 h).2 (fun p hp => (mem_mg a b).2 (.inl hp)) (fun p hp => (mem_mg a b).2 (.inr hp))
  · intro h
    have ha' := (tv_iff a).1 ha
    have hb' := (tv_iff b).1 hb
    refine (asc_iff _).2 ⟨fun p hp => ?_, mg_pw a b ha'.2.1 hb'.2.1 h⟩
    rcases (mem_mg a b).1 hp with hp | hp
    · exact ha'.1 p hp
    · exact hb'.1 p hp
/-- The reference's test is the program's. -/
theorem fit_mg (a b : List (Int × Int)) : (tv a && tv b && asc (mg a b)) = fitV a b := by
  unfold fitV
  cases ha : tv a with
  | false => rfl
  | true =>
    cases hb : tv b with
    | false => rfl
    | true =>
      have : asc (mg a b) = asc (allV a b) := by rw [Bool.eq_iff_iff, asc_mg ha hb, asc_allV ha hb]
      rw [this]
theorem mg_allV {a b : List (Int × Int)} (h : fitV a b = true) : mg a b = allV a b := by
  obtain ⟨h1, h2, h3⟩ := fitV_iff.1 h
  exact (allV_eq (mg_pw a b (tv_pw h1) (tv_pw h2) h3) fun p => mem_mg a b).symm
theorem asc_fit {a b : List (Int × Int)} (h : fitV a b = true) : asc (allV a b) = true := by
  unfold fitV at h; rw [Bool.and_eq_true] at h; exact h.2
theorem jOk_mg (a b : List (Int × Int)) : (fitV a b && tv (mg a b)) = jOk a b := by
  unfold jOk
  cases h : fitV a b with
  | false => rfl
  | true => rw [mg_allV h, tv, asc_fit h]; rfl

/-! ## what the laws say -/
theorem jOk_fit {a b : List (Int × Int)} (h : jOk a b = true) : fitV a b = true := by unfold jOk at h; rw [Bool.and_eq_true] at h; exact h.1
theorem jL_yes {a b : List (Int × Int)} (h : jOk a b = true) : jL a b = allV a b := by unfold jL; rw [if_pos h]
theorem jL_no {a b : List (Int × Int)} (h : jOk a b = false) : jL a b = [] := by unfold jL; rw [h]; rfl
theorem jL_len (a b : List (Int × Int)) : (jL a b).length ≤ 12 := by
  unfold jL; split
  · rename_i h; unfold jOk at h; simp at h; omega
  · simp
theorem jOk_tv {a b : List (Int × Int)} (h : jOk a b = true) : tv (jL a b) = true ∧ tv a = true ∧ tv b = true ∧ ∀ p, p ∈ jL a b ↔ p ∈ a ∨ p ∈ b := by
  have hf := jOk_fit h
  obtain ⟨h1, h2, _⟩ := fitV_iff.1 hf
  rw [jL_yes h]
  refine ⟨?_, h1, h2, fun p => mem_allV⟩
  unfold tv
  rw [asc_fit hf]
  unfold jOk at h; rw [Bool.and_eq_true] at h; exact h.2
theorem fit_of {a b l : List (Int × Int)} (ha : tv a = true) (hb : tv b = true) (hl : l.Pairwise Less2) (h1 : ∀ p ∈ a, p ∈ l) (h2 : ∀ p ∈ b, p ∈ l) : fitV a b = true := fitV_iff.2 ⟨ha, hb, compat_of hl h1 h2⟩
theorem join_of {a b l : List (Int × Int)} (ha : tv a = true) (hb : tv b = true) (hl : tv l = true) (hm : ∀ p, p ∈ l ↔ p ∈ a ∨ p ∈ b) : jOk a b = true ∧ jL a b = l := by
  have hf := fit_of ha hb (tv_pw hl) (fun p hp => (hm p).2 (.inl hp)) (fun p hp => (hm p).2 (.inr hp))
  have he := allV_eq (tv_pw hl) hm
  have hj : jOk a b = true := by unfold jOk; rw [hf, he]; simpa using tv_len hl
  exact ⟨hj, by rw [jL_yes hj, he]⟩
theorem sub_len {α : Type} {R : α → α → Prop} (hasy : ∀ x y, R x y → R y x → False) : ∀ {l m : List α}, l.Pairwise R → m.Pairwise R → (∀ x ∈ l, x ∈ m) → l.length ≤ m.length
  | [], _, _, _, _ => by simp
  | x :: l, [], _, _, h => absurd (h x (by simp)) (by simp)
  | x :: l, y :: m, hl, hm, h => by
    have hl' := List.pairwise_cons.1 hl
    have hm' := List.pairwise_cons.1 hm
    by_cases e : x = y
    · subst e
      have := sub_len hasy hl'.2 hm'.2 fun z hz => by
        rcases List.mem_cons.1 (h z (by simp [hz])) with e | e
        · subst e; exact (hasy _ _ (hl'.1 z hz) (hl'.1 z hz)).elim
        · exact e
      simp only [List.length_cons]; omega
    · have hx : x ∈ m := by
        rcases List.mem_cons.1 (h x (by simp)) with e' | e'
        · exact absurd e' e
        · exact e'
      have := sub_len hasy hl hm'.2 fun z hz => by
        rcases List.mem_cons.1 (h z hz) with e' | e'
        · subst e'
          rcases List.mem_cons.1 hz with e2 | e2
          · exact absurd e2.symm e
          · exact (hasy _ _ (hl'.1 z e2) (hm'.1 x hx)).elim
        · exact e'
      simp only [List.length_cons] at this ⊢; omega
theorem join_none {a b : List (Int × Int)} (h : jOk a b = true) : (jOk a [] = true ∧ jL a [] = a) ∧ (jOk [] b = true ∧ jL [] b = b) ∧ (jL a b).length ≤ a.length + b.length ∧ a.length ≤ (jL a b).length ∧ b.length ≤ (jL a b).length := by
  obtain ⟨h0, h1, h2, h3⟩ := jOk_tv h
  refine ⟨join_of h1 tv_nil h1 (by simp), join_of tv_nil h2 h2 (by simp), ?_, ?_, ?_⟩
  · rw [jL_yes h]; exact allV_len a b
  · exact sub_len Less2.asymm_ (tv_pw h1) (tv_pw h0) fun p hp => (h3 p).2 (.inl hp)
  · exact sub_len Less2.asymm_ (tv_pw h2) (tv_pw h0) fun p hp => (h3 p).2 (.inr hp)
theorem join_parts {o : List (Int × Int)} (h : tv o = true) (k : Nat) : (jOk (o.take k) (o.drop k) = true ∧ jL (o.take k) (o.drop k) = o) ∧ jOk (o.drop k) (o.take k) = true ∧ jL (o.drop k) (o.take k) = o := by
  have hm : ∀ p, p ∈ o ↔ p ∈ o.take k ∨ p ∈ o.drop k := fun p => by rw [← List.mem_append, List.take_append_drop]
  exact ⟨join_of (tv_take h k) (tv_drop h k) h hm, join_of (tv_drop h k) (tv_take h k) h fun p => by rw [hm p, or_comm]⟩
theorem join_both {a b : List (Int × Int)} (h : jOk a b = true) : (jOk b a = true ∧ jL b a = jL a b) ∧ jOk (jL a b) a = true ∧ jL (jL a b) a = jL a b := by
  obtain ⟨h0, h1, h2, h3⟩ := jOk_tv h
  exact ⟨join_of h2 h1 h0 fun p => by rw [h3 p, or_comm], join_of h0 h1 h0 fun p => ⟨.inl, fun hp => by
    rcases hp with hp | hp
    · exact hp
    · exact (h3 p).2 (.inl hp)⟩⟩
theorem join_sub {o y : List (Int × Int)} (ho : tv o = true) (hy : tv y = true) (hs : ∀ p ∈ y, p ∈ o) : fitV o y = true ∧ jOk o y = true ∧ jL o y = o :=
  ⟨fit_of ho hy (tv_pw ho) (fun _ hp => hp) hs, join_of ho hy ho fun p => ⟨.inl, fun hp => by
    rcases hp with hp | hp
    · exact hp
    · exact hs p hp⟩⟩
theorem fit_comm {a b : List (Int × Int)} (h : fitV a b = true) : fitV b a = true := by
  obtain ⟨h1, h2, h3⟩ := fitV_iff.1 h
  exact fitV_iff.2 ⟨h2, h1, compat_comm h3⟩
theorem fit_self {a : List (Int × Int)} (h : tv a = true) : fitV a a = true := fit_of h h (tv_pw h) (fun _ hp => hp) fun _ hp => hp
theorem fit_swap {a b : List (Int × Int)} (h : fitV a b = true) : fitV (turnL a) (turnL b) = true := by
  obtain ⟨h1, h2, h3⟩ := fitV_iff.1 h
  refine fitV_iff.2 ⟨tv_turnL h1, tv_turnL h2, fun p hp q hq => ?_⟩
  rw [turnL_yes h1] at hp
  rw [turnL_yes h2] at hq
  rcases h3 _ (mem_swapL.1 hp) _ (mem_swapL.1 hq) with e | e | e
  · left; injection e with e1 e2; exact Prod.ext e2 e1
  · exact .inr (.inl ⟨e.2, e.1⟩)
  · exact .inr (.inr ⟨e.2, e.1⟩)
theorem fit_sub {a b c d : List (Int × Int)} (h : fitV a b = true) (hc : tv c = true) (hd : tv d = true) (h1 : ∀ p ∈ c, p ∈ a) (h2 : ∀ p ∈ d, p ∈ b) : fitV c d = true :=
  fitV_iff.2 ⟨hc, hd, fun p hp q hq => (fitV_iff.1 h).2.2 p (h1 p hp) q (h2 q hq)⟩
theorem fit_less {a b : List (Int × Int)} (h : fitV a b = true) (k l : Nat) : fitV (a.take k) (b.take l) = true ∧ fitV (a.drop k) b = true := by
  obtain ⟨h1, h2, _⟩ := fitV_iff.1 h
  exact ⟨fit_sub h (tv_take h1 k) (tv_take h2 l) (fun _ hp => List.mem_of_mem_take hp) fun _ hp => List.mem_of_mem_take hp, fit_sub h (tv_drop h1 k) h2 (fun _ hp => List.mem_of_mem_drop hp) fun _ hp => hp⟩
theorem fit_none {a : List (Int × Int)} (h : tv a = true) : fitV a [] = true ∧ fitV [] a = true := ⟨fit_of h tv_nil (tv_pw h) (fun _ hp => hp) (by simp), fit_of tv_nil h (tv_pw h) (by simp) fun _ hp => hp⟩
end Go.Proofs.Ytihkdbgnoncgnaa
