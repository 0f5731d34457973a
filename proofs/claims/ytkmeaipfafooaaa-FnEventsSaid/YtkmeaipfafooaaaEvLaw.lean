/- Plain laws of events (no program in sight): when a list of pairs is a list of events. No condition. -/
import Derived.Test.YtkmeaipfafooaaaDepth
namespace Go.Proofs.Ytkmeaipfafooaaa

def sizeOk (s : Int) : Bool := decide (1 ≤ s) && decide (s ≤ 1000)
def EvAt (l : List (Int × Int)) (k : Nat) : Bool :=
  depthOk (fA l k) && sizeOk (fB l k) && (decide (k = 0) || decide (fA l (k - 1) < fA l k))
def evTo (l : List (Int × Int)) : Nat → Bool
  | 0 => true
  | k + 1 => evTo l k && EvAt l k
def ev (l : List (Int × Int)) : Bool := evTo l l.length && decide (l.length ≤ 8)

theorem ev_stop {l : List (Int × Int)} {k : Nat} (hk : k < l.length) (h : EvAt l k = false) : ev l = false := by
  have step : ∀ n, k < n → evTo l n = false := by
    intro n hn
    induction n with
    | zero => omega
    | succ n ih =>
      rw [evTo]
      by_cases e : n = k
      · subst e; simp [h]
      · rw [ih (by omega)]; rfl
  simp [ev, step _ hk]
theorem ev_iff_at (l : List (Int × Int)) : ev l = true ↔ (∀ k, k < l.length → EvAt l k = true) ∧ l.length ≤ 8 := by
  have h : ∀ n, evTo l n = true ↔ ∀ k, k < n → EvAt l k = true := by
    intro n
    induction n with
    | zero => simp [evTo]
    | succ n ih =>
      rw [evTo, Bool.and_eq_true, ih]
      constructor
      · intro ⟨h1, h2⟩ k hk
        by_cases e : k = n
        · subst e; exact h2
        · exact h1 k (by omega)
      · exact fun h => ⟨fun k hk => h k (by omega), h n (by omega)⟩
  rw [ev, Bool.and_eq_true, h]
  simp
theorem ev_len {l : List (Int × Int)} (h : ev l = true) : l.length ≤ 8 := ((ev_iff_at l).1 h).2
theorem fA_take {l : List (Int × Int)} {k j : Nat} (h : k < j) : fA (l.take j) k = fA l k ∧ fB (l.take j) k = fB l k := by
  unfold fA fB
  rw [List.getD_eq_getElem?_getD, List.getElem?_take, if_pos h, ← List.getD_eq_getElem?_getD]; exact ⟨rfl, rfl⟩
theorem ev_take {l : List (Int × Int)} (h : ev l = true) (j : Nat) : ev (l.take j) = true := by
  rw [ev_iff_at] at h ⊢
  obtain ⟨h1, h2⟩ := h
  refine ⟨fun k hk => ?_, by rw [List.length_take]; omega⟩
  rw [List.length_take] at hk
  have := h1 k (by omega)
  unfold EvAt at this ⊢
  rw [(fA_take (l := l) (j := j) (k := k) (by omega)).1, (fA_take (l := l) (j := j) (k := k) (by omega)).2, (fA_take (l := l) (j := j) (k := k - 1) (by omega)).1]
  exact this
end Go.Proofs.Ytkmeaipfafooaaa
