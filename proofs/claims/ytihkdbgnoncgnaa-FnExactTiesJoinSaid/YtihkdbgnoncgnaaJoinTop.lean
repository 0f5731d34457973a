/- Contracts of TiesFit and TiesJoin, in the program and in the reference. No condition but that the lists have at most 1048576 elements. -/
import Derived.Test.YtihkdbgnoncgnaaAllTies
namespace Go.Proofs.Ytihkdbgnoncgnaa
open Go.RowKit

set_option maxHeartbeats 2000000 in
theorem tiesFit_any (A B : Option Addr) (c d : Nat) (a b : List (Int × Int)) (w : World) (hr : Rd w w.heap.size A a) (hs : Rd w w.heap.size B b) (hn : a.length ≤ 1048576) (hm : b.length ≤ 1048576) :
    Calls Try.prog 21 #[.slice A a.length c, .slice B b.length d] w fun e w' => e = .returned (.bool (fitV a b)) ∧ Below w.heap.size w w' := by
  go_enter Try.func21, Try.ntmps21
  go_wp2_with fail
  refine (tiesValid_any A c a _ hr hn).mono ?_
  rintro e w1 ⟨rfl, b1⟩
  cases ha : tv a with
  | false =>
    have ef : fitV a b = false := by unfold fitV; rw [ha]; rfl
    have EF := Lib.hid ef
    clear ef ha
    go_wp2
    go_ret
    exact ⟨ret_bool EF.out.symm, b1⟩
  | true =>
    have la := tv_len ha
    have HA := Lib.hid ha
    clear ha
    go_wp2_with fail
    refine (tiesValid_any B d b _ (hs.to b1) hm).mono ?_
    rintro e w2 ⟨rfl, b2⟩
    have b3 := b1.trans (b2.mono b1.size)
    cases hb : tv b with
    | false =>
      have ef : fitV a b = false := by unfold fitV; rw [hb, Bool.and_false]; rfl
      have EF := Lib.hid ef
      clear ef hb
      go_wp2
      go_ret
      exact ⟨ret_bool EF.out.symm, b3⟩
    | true =>
      have lb := tv_len hb
      have EF := Lib.hid (show fitV a b = asc (allV a b) by unfold fitV; rw [HA.out, hb]; rfl)
      have hle := allV_len a b
      clear hb b1 b2
      go_wp2_with fail
      refine (allTies_any A B c d a b _ (hr.to b3) (hs.to b3) hn hm).mono ?_
      rintro e w4 ⟨A4, rfl, o4, b4⟩
      have b5 := b3.trans (b4.mono b3.size)
      go_wp2_with fail
      refine (tiesAscend_any A4 (allV a b).length (allV a b) _ o4.rd (by omega)).mono ?_
      rintro e w6 ⟨rfl, b6⟩
      rw [← EF.out]
      go_wp2
      go_ret
      exact ⟨rfl, b5.trans (b6.mono b5.size)⟩
set_option maxHeartbeats 2000000 in
theorem tiesJoin_any (A B : Option Addr) (c d : Nat) (a b : List (Int × Int)) (w : World) (hr : Rd w w.heap.size A a) (hs : Rd w w.heap.size B b) (hn : a.length ≤ 1048576) (hm : b.length ≤ 1048576) :
    Calls Try.prog 14 #[.slice A a.length c, .slice B b.length d] w (RetRB w (jL a b) (jOk a b)) := by
  go_enter Try.func14, Try.ntmps14
  go_wp2_with fail
  refine (allTies_any A B c d a b _ hr hs hn hm).mono ?_
  rintro e w1 ⟨A1, rfl, o1, b1⟩
  go_wp2_with fail
  refine (tiesFit_any A B c d a b _ (hr.to b1) (hs.to b1) hn hm).mono ?_
  rintro e w2 ⟨rfl, b2⟩
  have b3 := b1.trans (b2.mono b1.size)
  have o2 := o1.below b2
  clear b1 b2 o1
  cases hf : fitV a b with
  | false =>
    have ef : jOk a b = false := by unfold jOk; rw [hf]; rfl
    have EF := Lib.hid ef
    clear hf
    go_wp2
    go_ret2
    rw [jL_no ef, ef]
    exact ⟨none, rfl, fun h => absurd h (by simp), b3⟩
  | true =>
    by_cases hl : (allV a b).length ≤ 12
    · have ef : jOk a b = true := by unfold jOk; rw [hf, decide_eq_true hl]; rfl
      have hl2 : decide (12 < (allV a b).length) = false := decide_eq_false (by omega)
      clear hf
      go_wp2
      go_ret2
      rw [jL_yes ef, ef]
      exact ⟨A1, rfl, o2, b3⟩
    · have ef : jOk a b = false := by unfold jOk; rw [hf, decide_eq_false hl]; rfl
      clear hf
      go_wp2
      go_ret2
      rw [jL_no ef, ef]
      exact ⟨none, rfl, fun h => absurd h (by simp), b3⟩

/-! ## the reference -/
theorem drop_pA {l : List (Int × Int)} {k : Nat} (h : k < l.length) : l.drop k = pA l k :: l.drop (k + 1) := by rw [pA_lt h]; exact List.drop_eq_getElem_cons h
section
variable {a b : List (Int × Int)} {i k : Nat}
theorem mgA (hi : i < a.length) (h : b.length ≤ k ∨ (k < b.length ∧ fA a i < fA b k)) : mg (a.drop i) (b.drop k) = pA a i :: mg (a.drop (i + 1)) (b.drop k) := by
  rcases h with h | ⟨h1, h2⟩
  · rw [List.drop_eq_nil_of_le h, mg_nil, mg_nil, drop_pA hi]
  · rw [drop_pA hi, drop_pA h1, mg, if_pos (show (pA a i).1 < (pA b k).1 from h2)]
theorem mgB (hk : k < b.length) (h : a.length ≤ i ∨ (i < a.length ∧ ¬ fA a i < fA b k ∧ (fA b k < fA a i ∨ ¬ (fA a i = fA b k ∧ fB a i = fB b k)))) : mg (a.drop i) (b.drop k) = pA b k :: mg (a.drop i) (b.drop (k + 1)) := by
  rcases h with h | ⟨h1, h2, h3⟩
  · rw [List.drop_eq_nil_of_le h, mg, mg, drop_pA hk]
  · rw [drop_pA h1, drop_pA hk, mg, if_neg (show ¬ (pA a i).1 < (pA b k).1 from h2), if_pos ?_]
    rcases h3 with h3 | h3
    · exact .inl h3
    · refine .inr fun e => h3 ?_
      injection e with e1 e2
      exact ⟨e1, e2⟩
theorem mgC (hi : i < a.length) (hk : k < b.length) (h : fA a i = fA b k ∧ fB a i = fB b k) : mg (a.drop i) (b.drop k) = pA a i :: mg (a.drop (i + 1)) (b.drop (k + 1)) := by
  have e : pA a i = pA b k := by unfold pA; rw [h.1, h.2]
  rw [drop_pA hi, drop_pA hk, mg, if_neg (by rw [e]; omega), if_neg (by rw [e]; simp)]
end
def mgAt (a b : List (Int × Int)) (w : World) (i k v : Value) (wr : World) : Prop :=
  ∃ (p q : Nat) (acc : List (Int × Int)), p ≤ a.length ∧ q ≤ b.length ∧ i = .int .i64 p ∧ k = .int .i64 q ∧ acc.length ≤ p + q ∧ acc ++ mg (a.drop p) (b.drop q) = mg a b ∧ Acc2 w wr 40 v acc
end Go.Proofs.Ytihkdbgnoncgnaa
