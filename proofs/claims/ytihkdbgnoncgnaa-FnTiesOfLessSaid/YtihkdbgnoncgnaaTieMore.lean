/- Plain laws of the ties of a matching (no program in sight): they are ties; turned they are those of the turned matching; of fewer pairs there are fewer. No condition. -/
import Derived.Test.YtihkdbgnoncgnaaTiesOf
import Derived.Test.YtihkdbgnoncgnaaTiesMore
namespace Go.Proofs.Ytihkdbgnoncgnaa

section
variable {a b : List (Int × Int)} {t : Int} {ms : List Int}
theorem mem_tieTo {p : Int × Int} : ∀ k, (p ∈ tieTo a b ms k ↔ ∃ j, j < k ∧ 0 ≤ gI ms j ∧ p = (fA a j, fA b (gI ms j).toNat))
  | 0 => by simp [tieTo]
  | k + 1 => by
    have ih := mem_tieTo (p := p) k
    rw [tieTo]
    split
    · rename_i h
      rw [List.mem_append, List.mem_singleton, ih]
      constructor
      · rintro (⟨j, h1, h2, h3⟩ | h1)
        · exact ⟨j, by omega, h2, h3⟩
        · exact ⟨k, by omega, h, h1⟩
      · rintro ⟨j, h1, h2, h3⟩
        by_cases e : j = k
        · subst e; exact .inr h3
        · exact .inl ⟨j, by omega, h2, h3⟩
    · rename_i h
      rw [ih]
      constructor
      · rintro ⟨j, h1, h2, h3⟩; exact ⟨j, by omega, h2, h3⟩
      · rintro ⟨j, h1, h2, h3⟩
        by_cases e : j = k
        · subst e; exact absurd h2 h
        · exact ⟨j, by omega, h2, h3⟩
theorem ev_step {l : List (Int × Int)} (h : ev l = true) : ∀ d i, i + d + 1 < l.length → fA l i < fA l (i + d + 1)
  | 0, i, hk => by
    have := ((ev_iff_at l).1 h).1 (i + 1) (by omega)
    simp only [EvAt, Bool.and_eq_true, Bool.or_eq_true, decide_eq_true_eq, Nat.add_sub_cancel] at this
    have := this.2.resolve_left (by omega)
    simpa using this
  | d + 1, i, hk => by
    have h1 := ev_step h d i (by omega)
    have h2 := ev_step h 0 (i + d + 1) (by omega)
    have e : i + d + 1 + 0 + 1 = i + (d + 1) + 1 := by omega
    rw [e] at h2
    omega
theorem ev_lt {l : List (Int × Int)} (h : ev l = true) {i k : Nat} (hi : i < k) (hk : k < l.length) : fA l i < fA l k := by
  have := ev_step h (k - i - 1) i (by omega)
  rwa [show i + (k - i - 1) + 1 = k by omega] at this
theorem depthOk_iff (d : Int) : depthOk d = true ↔ 0 ≤ d ∧ d ≤ 30000 := by simp [depthOk]
theorem okV_char (h : okV a b t ms = true) : ev a = true ∧ ev b = true ∧ MChar t (szL b) (szL a) ms (-1) := by
  obtain ⟨h1, h2, _⟩ := okV_parts h
  obtain ⟨f1, f2, _⟩ := mtb_parts h1
  exact ⟨f1, f2, (mOk_iff _ _ _ _ _ (by omega)).1 h2⟩
theorem szL_length (l : List (Int × Int)) : (szL l).length = l.length := by simp [szL]
theorem tieTo_pw (h : okV a b t ms = true) : ∀ k, k ≤ ms.length → (tieTo a b ms k).Pairwise Less2
  | 0, _ => List.Pairwise.nil
  | k + 1, hk => by
    have ih := tieTo_pw h k (by omega)
    obtain ⟨f1, f2, h3, h4, h5⟩ := okV_char h
    rw [szL_length] at h3 h4 h5
    rw [tieTo]
    split
    · rename_i hg
      rw [List.pairwise_append]
      refine ⟨ih, List.pairwise_singleton _ _, fun x hx y hy => ?_⟩
      rw [List.mem_singleton] at hy
      subst hy
      obtain ⟨j, j1, j2, rfl⟩ := (mem_tieTo k).1 hx
      have hb := h4 k (by omega)
      have hlt := h5 j k j1 (by omega) (by omega) (by omega)
      rw [szL_length] at hb
      exact ⟨ev_lt f1 j1 (by omega), ev_lt f2 (by omega) (by omega)⟩
    · exact ih
theorem tie_tv (h : okV a b t ms = true) : tv (tieV a b t ms) = true := by
  rw [tieV_yes h, tv_iff]
  obtain ⟨f1, f2, h3, h4, h5⟩ := okV_char h
  rw [szL_length] at h3 h4 h5
  refine ⟨fun p hp => ?_, tieTo_pw h _ (Nat.le_refl _), by have := tieV_len a b t ms; rw [tieV_yes h] at this; omega⟩
  obtain ⟨j, j1, j2, rfl⟩ := (mem_tieTo _).1 hp
  have hb := h4 j (by omega)
  rw [szL_length] at hb
  exact ⟨(depthOk_iff _).2 (ev_depth f1 (by omega)), (depthOk_iff _).2 (ev_depth f2 (by omega))⟩
/-- The turned matching has the turned ties. -/
theorem tie_turn (h : okV a b t ms = true) : tieV b a t (invTo ms b.length a.length) = turnL (tieV a b t ms) := by
  obtain ⟨e1, _⟩ := okV_inv h
  obtain ⟨f1, f2, h3, h4, h5⟩ := okV_char h
  rw [szL_length] at h3 h4 h5
  rw [szL_length] at h4
  rw [turnL_yes (tie_tv h), tieV_yes e1, tieV_yes h]
  refine eq_of_mem_iff Less2.asymm_ (tieTo_pw e1 _ (Nat.le_refl _)) (pairwise_swapL (tieTo_pw h _ (Nat.le_refl _))) fun p => ?_
  rw [mem_swapL, mem_tieTo, mem_tieTo, length_invTo]
  have hbd : ∀ j, j < a.length → gI ms j < b.length := fun j hj => by rcases h4 j hj with h | h <;> omega
  constructor
  · rintro ⟨k, k1, k2, rfl⟩
    rcases invTo_at ms b.length k k1 a.length hbd with ⟨g1, _⟩ | ⟨j, g1, g2, g3⟩
    · omega
    · rw [g3] at k2 ⊢
      exact ⟨j, by omega, by omega, by rw [g2]; simp⟩
  · rintro ⟨j, j1, j2, he⟩
    have hj := hbd j (by omega)
    have hp : p = (fA b (gI ms j).toNat, fA a j) := by
      injection he with he1 he2
      exact Prod.ext he2 he1
    refine ⟨(gI ms j).toNat, by omega, ?_⟩
    rcases invTo_at ms b.length (gI ms j).toNat (by omega) a.length hbd with ⟨_, g2⟩ | ⟨j', g1, g2, g3⟩
    · exact absurd (show gI ms j = ((gI ms j).toNat : Nat) by omega) (g2 j (by omega))
    · have : j' = j := by
        rcases Nat.lt_trichotomy j' j with hh | hh | hh
        · have := h5 j' j hh (by omega) (by omega) (by omega); omega
        · exact hh
        · have := h5 j j' hh (by omega) (by omega) (by omega); omega
      subst this
      rw [g3]
      exact ⟨by omega, by rw [hp]; simp⟩
theorem tie_many (h : okV a b t ms = true) : manyV a b t ms = ((tieV a b t ms).length : Nat) := by
  rw [manyV_yes h, tieV_yes h, tieTo_prs _ _ _ _ (Nat.le_refl _), List.take_length]
/-- One pair given up: fewer ties. -/
theorem tie_less (h : okV a b t ms = true) (i : Nat) : okV a b t (putI ms i (-1)) = true ∧ ∀ p ∈ tieV a b t (putI ms i (-1)), p ∈ tieV a b t ms := by
  have h2 := okV_drop h i
  refine ⟨h2, fun p hp => ?_⟩
  rw [tieV_yes h2, mem_tieTo] at hp
  rw [tieV_yes h, mem_tieTo]
  obtain ⟨j, j1, j2, rfl⟩ := hp
  rw [length_putI] at j1
  have e : gI (putI ms i (-1)) j = if j = i then -1 else gI ms j := by
    by_cases hi : i < ms.length
    · exact gI_set ms i j _ hi
    · rw [if_neg (by omega)]
      unfold putI
      rw [List.set_eq_of_length_le (by omega)]
  rw [e] at j2 ⊢
  by_cases hji : j = i
  · rw [if_pos hji] at j2; omega
  · rw [if_neg hji] at j2 ⊢
    exact ⟨j, j1, j2, rfl⟩
end
end Go.Proofs.Ytihkdbgnoncgnaa
