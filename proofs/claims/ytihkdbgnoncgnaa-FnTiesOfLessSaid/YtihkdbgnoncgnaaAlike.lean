/- Contracts of the functions that say whether events can be a pair, and whether the arguments of a matching are valid. No condition but that the numbers are small and the lists have at most 1048576 elements. -/
import Derived.Test.YtihkdbgnoncgnaaEv
import Derived.Test.YtihkdbgnoncgnaaMatchLaw
namespace Go.Proofs.Ytihkdbgnoncgnaa
open Go.RowKit

def mtb (a b : List (Int × Int)) (t : Int) : Bool := ev a && ev b && (decide (0 ≤ t) && decide (t ≤ 1000))
def szL (l : List (Int × Int)) : List Int := l.map Prod.snd
theorem length_szL (l : List (Int × Int)) : (szL l).length = l.length := by simp [szL]
theorem gI_szL (l : List (Int × Int)) (k : Nat) : gI (szL l) k = fB l k := by
  by_cases h : k < l.length
  · rw [gI_lt (by rw [length_szL]; exact h), fB_lt h]; simp [szL]
  · have h1 : l[k]? = none := List.getElem?_eq_none (by omega)
    simp [gI, fB, szL, h1]
theorem lk_by {t x y z : Int} (h : z ≤ t ↔ x - y ≤ t ∧ y - x ≤ t) : decide (z ≤ t) = lk t x y := by
  unfold lk; rw [← Bool.decide_and, decide_eq_decide]; exact h
def absV (n : Int) : Int := if -n ≤ n then n else -n
theorem absV_is (n : Int) : n ≤ absV n ∧ -n ≤ absV n ∧ (absV n = n ∨ absV n = -n) := by unfold absV; split <;> omega
/-- Sizes of events are small. -/
theorem ev_size {l : List (Int × Int)} (h : ev l = true) {k : Nat} (hk : k < l.length) : 1 ≤ fB l k ∧ fB l k ≤ 1000 := by
  have := ((ev_iff_at l).1 h).1 k hk
  simp only [EvAt, sizeOk, Bool.and_eq_true, decide_eq_true_eq] at this
  exact this.1.2

set_option maxHeartbeats 400000 in
theorem alike_any (d x d' y t : Int) (w : World) (hx0 : -1000000000 ≤ x) (hx1 : x ≤ 1000000000) (hy0 : -1000000000 ≤ y) (hy1 : y ≤ 1000000000) :
    Calls Try.prog 60 #[.agg #[.int .i64 d, .int .i64 x], .agg #[.int .i64 d', .int .i64 y], .int .i64 t] w fun e w' => e = .returned (.bool (lk t x y)) ∧ Below w.heap.size w w' := by
  have hb : ∀ a b : Array Value, Below w.heap.size w ((w.alloc (.cells a 60)).alloc (.cells b 60)) := fun a b => ((Below.refl _ _).alloc (Nat.le_refl _) _).alloc (by simp) _
  go_enter Try.func60, Try.ntmps60
  go_wp2
  all_goals
    go_ret
    exact ⟨ret_bool (lk_by (by omega)), hb _ _⟩

set_option maxHeartbeats 400000 in
theorem l2Abs_any (n : Int) (w : World) (h0 : -4000000000 ≤ n) (h1 : n ≤ 4000000000) :
    Calls Try.prog 73 #[.int .i64 n] w fun e w' => e = .returned (.int .i64 (absV n)) ∧ w = w' := by
  go_enter Try.func73, Try.ntmps73
  go_wp2
  all_goals
    go_ret
    exact ⟨ret_int (by unfold absV; split <;> omega), rfl⟩

set_option maxHeartbeats 400000 in
theorem l16Like_any (d x d' y t : Int) (w : World) (hx0 : -1000000000 ≤ x) (hx1 : x ≤ 1000000000) (hy0 : -1000000000 ≤ y) (hy1 : y ≤ 1000000000) :
    Calls Try.prog 63 #[.agg #[.int .i64 d, .int .i64 x], .agg #[.int .i64 d', .int .i64 y], .int .i64 t] w fun e w' => e = .returned (.bool (lk t x y)) ∧ Below w.heap.size w w' := by
  have hb : ∀ a b : Array Value, Below w.heap.size w ((w.alloc (.cells a 60)).alloc (.cells b 60)) := fun a b => ((Below.refl _ _).alloc (Nat.le_refl _) _).alloc (by simp) _
  go_enter Try.func63, Try.ntmps63
  go_wp2_with (go_at_call 73; refine (l2Abs_any _ _ (by omega) (by omega)).mono ?_; rintro e w' ⟨rfl, rfl⟩)
  go_ret
  exact ⟨ret_bool (lk_by (by have := absV_is (x - y); omega)), hb _ _⟩

set_option maxHeartbeats 1000000 in
theorem matchable_any (A B : Option Addr) (c d : Nat) (a b : List (Int × Int)) (t : Int) (w : World) (hr : Rd w w.heap.size A a) (hs : Rd w w.heap.size B b) (hn : a.length ≤ 1048576) (hm : b.length ≤ 1048576) :
    Calls Try.prog 59 #[.slice A a.length c, .slice B b.length d, .int .i64 t] w fun e w' => e = .returned (.bool (mtb a b t)) ∧ Below w.heap.size w w' := by
  go_enter Try.func59, Try.ntmps59
  go_wp2_with fail
  refine (eventsValid_any A c a _ hr hn).mono ?_
  rintro e w1 ⟨rfl, h1⟩
  have hs1 := hs.to h1
  cases hva : ev a with
  | false =>
    go_wp2
    go_ret
    exact ⟨ret_bool (by simp [mtb, hva]), h1⟩
  | true =>
    go_wp2_with fail
    refine (eventsValid_any B d b _ hs1 hm).mono ?_
    rintro e w2 ⟨rfl, h2⟩
    cases hvb : ev b with
    | false =>
      go_wp2
      go_ret
      exact ⟨ret_bool (by simp [mtb, hvb]), h1.trans (h2.mono h1.size)⟩
    | true =>
      by_cases h0 : 0 ≤ t
      · go_wp2
        go_ret
        exact ⟨ret_bool (by simp [mtb, hva, hvb, h0]), h1.trans (h2.mono h1.size)⟩
      · have h0' : decide (0 ≤ t) = false := by simpa using h0
        go_wp2
        go_ret
        exact ⟨ret_bool (by simp [mtb, h0']), h1.trans (h2.mono h1.size)⟩

set_option maxHeartbeats 1000000 in
theorem l16Ok_any (A B : Option Addr) (c d : Nat) (a b : List (Int × Int)) (t : Int) (w : World) (hr : Rd w w.heap.size A a) (hs : Rd w w.heap.size B b) (hn : a.length ≤ 1048576) (hm : b.length ≤ 1048576) :
    Calls Try.prog 61 #[.slice A a.length c, .slice B b.length d, .int .i64 t] w fun e w' => e = .returned (.bool (mtb a b t)) ∧ Below w.heap.size w w' := by
  go_enter Try.func61, Try.ntmps61
  go_wp2_with fail
  refine (specEventsValid_any A c a _ hr hn).mono ?_
  rintro e w1 ⟨rfl, h1⟩
  have hs1 := hs.to h1
  cases hva : ev a with
  | false =>
    go_wp2
    go_ret
    exact ⟨ret_bool (by simp [mtb, hva]), h1⟩
  | true =>
    go_wp2_with fail
    refine (specEventsValid_any B d b _ hs1 hm).mono ?_
    rintro e w2 ⟨rfl, h2⟩
    cases hvb : ev b with
    | false =>
      go_wp2
      go_ret
      exact ⟨ret_bool (by simp [mtb, hvb]), h1.trans (h2.mono h1.size)⟩
    | true =>
      go_wp2_with (go_at_call 62; refine (l6In_any _ _ _ _).mono ?_; rintro e w' ⟨rfl, rfl⟩)
      go_ret
      exact ⟨ret_bool (by simp [mtb, hva, hvb]), h1.trans (h2.mono h1.size)⟩

theorem alike_is {d x d' y t : Int} {r : Bool} (h : lk t x y = r) (w : World) (hx0 : -1000000000 ≤ x) (hx1 : x ≤ 1000000000) (hy0 : -1000000000 ≤ y) (hy1 : y ≤ 1000000000) :
    Calls Try.prog 60 #[.agg #[.int .i64 d, .int .i64 x], .agg #[.int .i64 d', .int .i64 y], .int .i64 t] w fun e w' => e = .returned (.bool r) ∧ Below w.heap.size w w' := by
  subst h; exact alike_any d x d' y t w hx0 hx1 hy0 hy1
theorem l16Like_is {d x d' y t : Int} {r : Bool} (h : lk t x y = r) (w : World) (hx0 : -1000000000 ≤ x) (hx1 : x ≤ 1000000000) (hy0 : -1000000000 ≤ y) (hy1 : y ≤ 1000000000) :
    Calls Try.prog 63 #[.agg #[.int .i64 d, .int .i64 x], .agg #[.int .i64 d', .int .i64 y], .int .i64 t] w fun e w' => e = .returned (.bool r) ∧ Below w.heap.size w w' := by
  subst h; exact l16Like_any d x d' y t w hx0 hx1 hy0 hy1
end Go.Proofs.Ytihkdbgnoncgnaa
