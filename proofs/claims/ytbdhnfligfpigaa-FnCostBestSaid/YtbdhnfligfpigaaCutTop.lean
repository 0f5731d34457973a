/- What the drawn laws of the cuts say, in plain lists (no program in sight). No condition. -/
import Derived.Test.YtbdhnfligfpigaaCutLaw
namespace Go.Proofs.Ytbdhnfligfpigaa

theorem sigTo_le {c : List Int} : ∀ {n : Nat} (m : Nat), m ≤ n → sigTo c n = true → sigTo c m = true
  | n, m, h, hs => (sigTo_iff c m).2 fun k hk => (sigTo_iff c n).1 hs k (by omega)
theorem best_iff (c : List Int) (lo hi : Int) : bestOk c lo hi = (sigTo c c.length && decide (0 < manyV c.length lo hi)) := by
  unfold bestOk manyV sig
  cases hs : sigTo c c.length with
  | false => simp
  | true =>
    cases hd : dstOk lo hi with
    | false => simp
    | true =>
      by_cases h1 : 1 ≤ c.length
      · by_cases h2 : c.length ≤ 16
        · have hlo : 1 ≤ lo := by simp [dstOk] at hd; omega
          have hw := rs_ways (a := lo.toNat) (b := hi.toNat) (c := c) (by omega) (fun k hk => by have := (sigTo_iff c _).1 hs k hk; simp [costOk] at this; omega) c.length 0 (by omega) (by omega)
          have e1 : (1 : Int) ≤ (c.length : Int) := by omega
          have e2 : (c.length : Int) ≤ 16 := by omega
          rw [decide_eq_true h1, decide_eq_true h2, decide_eq_true e1, decide_eq_true e2]
          simp only [Bool.true_and, Bool.and_true, if_true, Int.toNat_natCast]
          rw [Nat.sub_zero] at hw
          exact decide_eq_decide.2 (by rw [hw]; omega)
        · rw [decide_eq_false h2, decide_eq_false (show ¬ (c.length : Int) ≤ 16 by omega)]; simp
      · rw [decide_eq_false h1, decide_eq_false (show ¬ 1 ≤ (c.length : Int) by omega)]; simp
end Go.Proofs.Ytbdhnfligfpigaa
