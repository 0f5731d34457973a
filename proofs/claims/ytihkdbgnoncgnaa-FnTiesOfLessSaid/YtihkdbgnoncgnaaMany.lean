/- Contracts of MatchMany, in the program and in the reference. No condition but that the lists have at most 1048576 elements. -/
import Derived.Test.YtihkdbgnoncgnaaMatchOk
namespace Go.Proofs.Ytihkdbgnoncgnaa
open Go.RowKit

def manyV (a b : List (Int × Int)) (t : Int) (ms : List Int) : Int := if okV a b t ms then (prs ms : Nat) else -1
theorem manyV_yes {a b : List (Int × Int)} {t : Int} {ms : List Int} (h : okV a b t ms = true) : manyV a b t ms = (prs ms : Nat) := by unfold manyV; rw [if_pos h]
theorem manyV_no {a b : List (Int × Int)} {t : Int} {ms : List Int} (h : okV a b t ms = false) : manyV a b t ms = -1 := by unfold manyV; rw [h]; rfl
theorem okV_parts {a b : List (Int × Int)} {t : Int} {ms : List Int} (h : okV a b t ms = true) : mtb a b t = true ∧ mOk t (szL b) (szL a) ms (-1) = true ∧ ms.length = a.length ∧ a.length ≤ 8 ∧ b.length ≤ 8 := by
  simp only [okV, Bool.and_eq_true] at h
  have h2 := mOk_len h.2
  rw [length_szL] at h2
  obtain ⟨h3, h4, _, _⟩ := mtb_parts h.1
  exact ⟨h.1, h.2, h2, ev_len h3, ev_len h4⟩
theorem prs_all (ms : List Int) : prs (ms.take ms.length) = prs ms := by rw [List.take_length]

set_option maxHeartbeats 1000000 in
theorem matchMany_any (A B C : Option Addr) (ca cb cc : Nat) (a b : List (Int × Int)) (t : Int) (ms : List Int) (w : World) (hr : Rd w w.heap.size A a) (hs : Rd w w.heap.size B b) (hq : RdI w w.heap.size .i64 C ms) (hn : a.length ≤ 1048576) (hm : b.length ≤ 1048576) :
    Calls Try.prog 34 #[.slice A a.length ca, .slice B b.length cb, .int .i64 t, .slice C ms.length cc] w fun e w' => e = .returned (.int .i64 (manyV a b t ms)) ∧ Below w.heap.size w w' := by
  go_enter Try.func34, Try.ntmps34
  go_wp2_with fail
  refine (matchOk_any A B C ca cb cc a b t ms _ hr hs hq hn hm).mono ?_
  rintro e w1 ⟨rfl, h1⟩
  cases hv : okV a b t ms with
  | false =>
    go_wp2
    go_ret
    exact ⟨ret_int (manyV_no hv).symm, h1⟩
  | true =>
    obtain ⟨_, _, hl, hl8, _⟩ := okV_parts hv
    have hms : ms.length ≤ 8 := by omega
    have HV := Lib.hid hv
    clear hv hl
    go_wp2_with fail
    go_loopw [20, 9] (fun i v wr => ∃ k : Nat, k ≤ ms.length ∧ i = .int .i64 k ∧ v = .int .i64 (prs (ms.take k) : Nat) ∧ wr = w1) (fun i _ _ => ms.length - (intOf i).toNat)
    case atStart => exact ⟨0, Nat.zero_le _, rfl, rfl, rfl⟩
    case round =>
      obtain ⟨k, hk, rfl, rfl, rfl⟩ := hrel
      by_cases hlt : k < ms.length
      · obtain ⟨bm, om, hC, hCB, hcC⟩ := (hq.below h1) (by omega)
        subst hC
        have e0 := hcC k hlt
        have hp := prs_le (ms.take k)
        have hp2 : (ms.take k).length ≤ 8 := by rw [List.length_take]; omega
        have ht := prs_take ms k hlt
        have HT := Lib.hid ht
        clear hcC ht
        by_cases h0 : 0 ≤ gI ms k
        · go_wp2
          exact ⟨⟨k + 1, hlt, by go_num, by rw [HT.out, if_pos h0]; go_num, by first | rfl | trivial⟩, by simp [intOf]; omega⟩
        · have h0' : decide (0 ≤ gI ms k) = false := decide_eq_false h0
          go_wp2
          exact ⟨⟨k + 1, hlt, by go_num, by rw [HT.out, if_neg h0]; rfl, by first | rfl | trivial⟩, by simp [intOf]; omega⟩
      · obtain rfl : k = ms.length := by omega
        go_wp2
        go_ret
        exact ⟨ret_int (by rw [prs_all, manyV_yes HV.out]), h1⟩


end Go.Proofs.Ytihkdbgnoncgnaa
