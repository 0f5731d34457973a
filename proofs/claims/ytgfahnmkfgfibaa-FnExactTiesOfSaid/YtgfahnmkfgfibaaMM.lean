/- Contracts of MatchMost, in the program and in the reference. No condition but that the lists have at most 1048576 elements. -/
import Derived.Test.YtgfahnmkfgfibaaMostS
namespace Go.Proofs.Ytgfahnmkfgfibaa
open Go.RowKit

def mmV (a b : List (Int × Int)) (t : Int) : Int := if mtb a b t then (mostL t (szL a) (szL b) : Nat) else -1
theorem mtb_parts {a b : List (Int × Int)} {t : Int} (h : mtb a b t = true) : ev a = true ∧ ev b = true ∧ 0 ≤ t ∧ t ≤ 1000 := by
  simp only [mtb, Bool.and_eq_true, decide_eq_true_eq] at h
  exact ⟨h.1.1, h.1.2, h.2.1, h.2.2⟩
theorem mmV_yes {a b : List (Int × Int)} {t : Int} (h : mtb a b t = true) : mmV a b t = (mostL t (szL a) (szL b) : Nat) := by unfold mmV; rw [if_pos h]
theorem mmV_no {a b : List (Int × Int)} {t : Int} (h : mtb a b t = false) : mmV a b t = -1 := by unfold mmV; rw [h]; rfl
theorem mAt_00 (t : Int) (xs ys : List Int) : mAt t xs ys 0 0 = mostL t xs ys := rfl
theorem ev_small {l : List (Int × Int)} (h : ev l = true) : ∀ k, k < l.length → -1000000 ≤ fB l k ∧ fB l k ≤ 1000000 := fun k hk => by have := ev_size h hk; omega

set_option maxHeartbeats 1000000 in
theorem matchMost_any (A B : Option Addr) (ca cb : Nat) (a b : List (Int × Int)) (t : Int) (w : World) (hr : Rd w w.heap.size A a) (hs : Rd w w.heap.size B b) (hn : a.length ≤ 1048576) (hm : b.length ≤ 1048576) :
    Calls Try.prog 15 #[.slice A a.length ca, .slice B b.length cb, .int .i64 t] w fun e w' => e = .returned (.int .i64 (mmV a b t)) ∧ Below w.heap.size w w' := by
  go_enter Try.func15, Try.ntmps15
  go_wp2_with fail
  refine (matchable_any A B ca cb a b t _ hr hs hn hm).mono ?_
  rintro e w1 ⟨rfl, h1⟩
  have hr1 := hr.to h1
  have hs1 := hs.to h1
  cases hv : mtb a b t with
  | false =>
    go_wp2
    go_ret
    exact ⟨ret_int (mmV_no hv).symm, h1⟩
  | true =>
    obtain ⟨va, vb, _, _⟩ := mtb_parts hv
    have la := ev_len va
    have lb := ev_len vb
    go_wp2_with fail
    refine (mostPairs_any A B ca cb a b t _ hr1 hs1 (by omega) (by omega) (ev_small va) (ev_small vb)).mono ?_
    rintro e w2 ⟨g, c, h, rfl, tb, h2⟩
    have q1 := tb.cellS (i := 0) (by omega)
    have q2 := tb.cellI (i := 0) (k := 0) (by omega) (by omega)
    have e1 := mmV_yes hv
    rw [mAt_00, ← e1] at q2
    have l1 : (0 : Int) < (a.length : Int) + 1 := by omega
    have l2 : (0 : Int) < (b.length : Int) + 1 := by omega
    clear e1 tb
    go_wp2
    go_ret
    exact ⟨rfl, h1.trans (h2.mono h1.size)⟩

set_option maxHeartbeats 1000000 in
theorem specMatchMost_any (A B : Option Addr) (ca cb : Nat) (a b : List (Int × Int)) (t : Int) (w : World) (hr : Rd w w.heap.size A a) (hs : Rd w w.heap.size B b) (hn : a.length ≤ 1048576) (hm : b.length ≤ 1048576) :
    Calls Try.prog 16 #[.slice A a.length ca, .slice B b.length cb, .int .i64 t] w fun e w' => e = .returned (.int .i64 (mmV a b t)) ∧ Below w.heap.size w w' := by
  go_enter Try.func16, Try.ntmps16
  go_wp2_with fail
  refine (l16Ok_any A B ca cb a b t _ hr hs hn hm).mono ?_
  rintro e w1 ⟨rfl, h1⟩
  have hr1 := hr.to h1
  have hs1 := hs.to h1
  cases hv : mtb a b t with
  | false =>
    go_wp2
    go_ret
    exact ⟨ret_int (mmV_no hv).symm, h1⟩
  | true =>
    obtain ⟨va, vb, _, _⟩ := mtb_parts hv
    have la := ev_len va
    have lb := ev_len vb
    go_wp2_with fail
    refine (l16Most_any A B ca cb a b t _ hr1 hs1 (by omega) (by omega) (ev_small va) (ev_small vb)).mono ?_
    rintro e w2 ⟨g, c, h, rfl, tb, h2⟩
    have q1 := tb.cellS (i := 0) (by omega)
    have q2 := tb.cellI (i := 0) (k := 0) (by omega) (by omega)
    have e1 := mmV_yes hv
    rw [mAt_00, ← e1] at q2
    have l1 : (0 : Int) < (a.length : Int) + 1 := by omega
    have l2 : (0 : Int) < (b.length : Int) + 1 := by omega
    clear e1 tb
    go_wp2
    go_ret
    exact ⟨rfl, h1.trans (h2.mono h1.size)⟩

end Go.Proofs.Ytgfahnmkfgfibaa
