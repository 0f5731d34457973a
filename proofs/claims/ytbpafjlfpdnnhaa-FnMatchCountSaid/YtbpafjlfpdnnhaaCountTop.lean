/- More plain facts for the laws that count matchings. No condition. -/
import Derived.Test.YtbpafjlfpdnnhaaMatchTop
import Derived.Test.YtbpafjlfpdnnhaaCount
namespace Go.Proofs.Ytbpafjlfpdnnhaa
theorem mcV_nilR {a b : List (Int × Int)} {t : Int} (h : mtb a b t = true) : mcV a [] t = 1 := by
  obtain ⟨h1, h2, h3, h4⟩ := mtb_parts h
  rw [mcV_yes (mtb_mk h1 ev_nil h3 h4), szL_nil, countL_nil']; rfl
theorem mcV_comm (a b : List (Int × Int)) (t : Int) : mcV b a t = mcV a b t := by unfold mcV; rw [mtb_comm, countL_comm]
theorem mcV_bd (a b : List (Int × Int)) (t : Int) : -1 ≤ mcV a b t ∧ mcV a b t ≤ 12870 := by
  unfold mcV
  split
  · rename_i h
    obtain ⟨h1, h2, _, _⟩ := mtb_parts h
    have := cAt_le (t := t) (xs := szL a) (ys := szL b) (i := 0) (k := 0) (by rw [length_szL]; exact ev_len h1) (by rw [length_szL]; exact ev_len h2)
    rw [cAt_00] at this
    omega
  · omega
end Go.Proofs.Ytbpafjlfpdnnhaa
