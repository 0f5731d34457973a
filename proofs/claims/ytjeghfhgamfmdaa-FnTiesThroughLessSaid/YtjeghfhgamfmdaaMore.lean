/- More words for memory: what a slice of a slice reads; how long an owned slice may be. No condition. -/
import Derived.Test.YtjeghfhgamfmdaaLib
namespace Go.Proofs.Ytjeghfhgamfmdaa
open Go.RowKit
variable {w : World} {B : Nat} {A : Option Addr} {l : List (Int × Int)} {m : List Int} {kd : IntKind}
theorem own_cap {base size : Nat} {e : TypeId} {c n : Nat} {xs : List Value} (h : w.ownsRow base e size (.slice A n c) n xs) : n ≤ c := by
  rcases h.2 with ⟨hv, rfl⟩ | ⟨g, cap, cur, hv, _, _, hc, _⟩
  · omega
  · injection hv with _ _ h3; omega
theorem Rd.take (h : Rd w B A l) (j : Nat) : Rd w B A (l.take j) := fun hl => by
  have hl' : 0 < j ∧ 0 < l.length := by rw [List.length_take] at hl; omega
  obtain ⟨b, o, rfl, hB, hc⟩ := h hl'.2
  refine ⟨b, o, rfl, hB, fun k hk => ?_⟩
  rw [List.length_take] at hk
  have e1 : fA (l.take j) k = fA l k := by rw [fA_lt (by rw [List.length_take]; omega), fA_lt (by omega)]; simp
  have e2 : fB (l.take j) k = fB l k := by rw [fB_lt (by rw [List.length_take]; omega), fB_lt (by omega)]; simp
  rw [e1, e2]
  exact hc k (by omega)
/-- The address of the element j of a slice of pairs. -/
def at2 (A : Option Addr) (j : Nat) : Option Addr := A.map fun p => ⟨p.block, p.off + j * 2, none⟩
theorem Rd.drop (h : Rd w B A l) (j : Nat) : Rd w B (at2 A j) (l.drop j) := fun hl => by
  rw [List.length_drop] at hl
  obtain ⟨b, o, rfl, hB, hc⟩ := h (by omega)
  refine ⟨b, o + j * 2, rfl, hB, fun k hk => ?_⟩
  rw [List.length_drop] at hk
  have e1 : fA (l.drop j) k = fA l (j + k) := by rw [fA_lt (by rw [List.length_drop]; omega), fA_lt (by omega)]; simp
  have e2 : fB (l.drop j) k = fB l (j + k) := by rw [fB_lt (by rw [List.length_drop]; omega), fB_lt (by omega)]; simp
  rw [e1, e2, show o + j * 2 + k * 2 = o + (j + k) * 2 by omega]
  exact hc (j + k) (by omega)
theorem RdI.take (h : RdI w B kd A m) (j : Nat) : RdI w B kd A (m.take j) := fun hl => by
  have hl' : 0 < j ∧ 0 < m.length := by rw [List.length_take] at hl; omega
  obtain ⟨b, o, rfl, hB, hc⟩ := h hl'.2
  refine ⟨b, o, rfl, hB, fun k hk => ?_⟩
  rw [List.length_take] at hk
  have e1 : gI (m.take j) k = gI m k := by rw [gI_lt (by rw [List.length_take]; omega), gI_lt (by omega)]; simp
  rw [e1]
  exact hc k (by omega)
end Go.Proofs.Ytjeghfhgamfmdaa
