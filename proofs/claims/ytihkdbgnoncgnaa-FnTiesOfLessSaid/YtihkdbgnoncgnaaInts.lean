/- Contracts of the tests' own functions on lists of integers: comparing, copying, marking. No condition but that the lists have at most 1048576 elements. -/
import Derived.Test.YtihkdbgnoncgnaaPlan
import Derived.Test.YtihkdbgnoncgnaaProg
namespace Go.Proofs.Ytihkdbgnoncgnaa
open Go.RowKit

theorem infoI64 : (Try.prog.info? 3).map (fun i => (i.zero, i.size, i.bytes)) = some (some (.int .i64 0), 1, 8) := by kernel_rfl
def eqToI (l m : List Int) (k : Nat) : Prop := ∀ j, j < k → gI l j = gI m j
theorem eqToI_zero (l m : List Int) : eqToI l m 0 := fun j hj => absurd hj (by omega)
theorem eqToI_succ {l m : List Int} {k : Nat} (h : eqToI l m k) (hs : gI l k = gI m k) : eqToI l m (k + 1) := by
  intro j hj
  by_cases e : j = k
  · subst e; exact hs
  · exact h j (by omega)
theorem eq_of_eqToI {l m : List Int} (hl : l.length = m.length) (h : eqToI l m l.length) : l = m := by
  apply List.ext_getElem hl
  intro j h1 h2
  have := h j h1
  rwa [gI_lt h1, gI_lt h2] at this






/-- n times -1. -/
def noneL (n : Nat) : List Int := List.replicate n (-1)
theorem noneL_succ (n : Nat) : noneL (n + 1) = noneL n ++ [-1] := by unfold noneL; rw [List.replicate_succ']
theorem length_noneL (n : Nat) : (noneL n).length = n := by simp [noneL]

set_option maxHeartbeats 1000000 in
theorem none_any (n : Nat) (w : World) (hn : n ≤ 1048576) : Calls Try.prog 33 #[.int .i64 n] w (RetI w 3 (noneL n)) := by
  have hb0 : Below w.heap.size w (w.alloc (.cells #[] 3)) := (Below.refl _ _).alloc (Nat.le_refl _) _
  have hacc0 : Acc1 w (w.alloc (.cells #[] 3)) 3 .i64 (.slice (some ⟨w.heap.size, 0, none⟩) 0 0) (noneL 0) := ⟨World.ownsRow_made w #[] 0 (Nat.le_refl _) (by decide) rfl, hb0⟩
  go_enter Try.func33, Try.ntmps33
  go_wp2
  go_loopw [4, 3] (fun i v wr => ∃ k : Nat, k ≤ n ∧ i = .int .i64 k ∧ Acc1 w wr 3 .i64 v (noneL k)) (fun i _ _ => n - (intOf i).toNat)
  case atStart => exact ⟨0, Nat.zero_le _, rfl, hacc0⟩
  case round =>
    obtain ⟨k, hk, rfl, hacc⟩ := hrel
    clear hacc0 hb0
    by_cases hlt : k < n
    · have hln : (noneL k).length + 1 ≤ 4294967296 := by rw [length_noneL]; omega
      go_wp2_with (at_builtin; refine wpList_app1 rfl _ _ _ rfl Try.underlying42 infoI64 rfl hacc _ _ _ rfl rfl hln ?_; intro v1 w2 hacc1)
      exact ⟨⟨k + 1, hlt, by go_num, by rw [noneL_succ]; exact hacc1⟩, by simp [intOf]; omega⟩
    · obtain rfl : k = n := by omega
      go_wp2
      go_ret
      obtain ⟨A1, c1, rfl⟩ := hacc.shape
      exact ⟨A1, c1, rfl, hacc⟩

end Go.Proofs.Ytihkdbgnoncgnaa
