/- Contracts of CutsAllowed and CutsCost, in the program and in the reference. No condition but that the lists have at most 1048576 elements. -/
import Derived.Test.YtbdhnfligfpigaaSig
namespace Go.Proofs.Ytbdhnfligfpigaa
open Go.RowKit

/-- What is left of the cuts from place k on decides. -/
def cutAt (lo hi : Int) (cuts : List Int) (k : Nat) (lst : Int) : Prop := al lo hi (-1) cuts = al lo hi lst (cuts.drop k) ∧ lastOf (-1) cuts = lastOf lst (cuts.drop k)
section
variable {lo hi lst : Int} {cuts c : List Int} {k : Nat}
theorem cutAt_start : cutAt lo hi cuts 0 (-1) := ⟨rfl, rfl⟩
theorem cutAt_yes (h : cutAt lo hi cuts k lst) (hk : k < cuts.length) (h1 : lst + lo ≤ gI cuts k) (h2 : gI cuts k ≤ lst + hi) : cutAt lo hi cuts (k + 1) (gI cuts k) := by
  obtain ⟨h3, h4⟩ := h
  rw [drop_gI hk] at h3 h4
  refine ⟨h3.trans ?_, h4⟩
  rw [al, decide_eq_true h1, decide_eq_true h2]; rfl
theorem cutAt_no (h : cutAt lo hi cuts k lst) (hk : k < cuts.length) (h1 : ¬ (lst + lo ≤ gI cuts k ∧ gI cuts k ≤ lst + hi)) : al lo hi (-1) cuts = false := by
  rw [h.1, drop_gI hk, al]
  by_cases h2 : lst + lo ≤ gI cuts k
  · rw [decide_eq_false (fun h3 => h1 ⟨h2, h3⟩ : ¬ gI cuts k ≤ lst + hi)]; simp
  · rw [decide_eq_false h2]; simp
theorem cutAt_end (h : cutAt lo hi cuts k lst) (hk : cuts.length ≤ k) : al lo hi (-1) cuts = true ∧ lastOf (-1) cuts = lst := by
  rw [h.1, h.2, List.drop_eq_nil_of_le hk]; exact ⟨rfl, rfl⟩
theorem lastOf_ge (hlo : 1 ≤ lo) : ∀ (cuts : List Int) (lst : Int), al lo hi lst cuts = true → lst ≤ lastOf lst cuts
  | [], _, _ => Int.le_refl _
  | x :: xs, lst, h => by
    simp only [al, Bool.and_eq_true, decide_eq_true_eq] at h
    have := lastOf_ge hlo xs x h.2
    rw [lastOf]; omega
theorem al_le (hlo : 1 ≤ lo) : ∀ (cuts : List Int) (lst : Int), al lo hi lst cuts = true → ∀ i, i < cuts.length → lst < gI cuts i ∧ gI cuts i ≤ lastOf lst cuts
  | [], _, _, i, hi => by simp at hi
  | x :: xs, lst, h, i, hi => by
    simp only [al, Bool.and_eq_true, decide_eq_true_eq] at h
    have h1 := lastOf_ge hlo xs x h.2
    cases i with
    | zero => simp only [gI, lastOf, List.getD_cons_zero]; omega
    | succ i =>
      have := al_le hlo xs x h.2 i (by simpa using hi)
      simp only [gI, lastOf, List.getD_cons_succ] at *; omega
theorem lastOf_get : ∀ (cuts : List Int) (lst : Int), 0 < cuts.length → lastOf lst cuts = gI cuts (cuts.length - 1)
  | [], _, h => by simp at h
  | [x], _, _ => rfl
  | x :: y :: xs, _, _ => by
    rw [lastOf, lastOf_get (y :: xs) x (by simp)]
    simp [gI]
theorem allowed_iff : allowed c lo hi cuts = true ↔ sig c = true ∧ dstOk lo hi = true ∧ al lo hi (-1) cuts = true ∧ lastOf (-1) cuts = (c.length : Int) - 1 := by
  simp [allowed, and_assoc]
theorem dst_parts (h : dstOk lo hi = true) : 1 ≤ lo ∧ lo ≤ hi ∧ hi ≤ 16 := by simp [dstOk] at h; omega
theorem allowed_at (h : allowed c lo hi cuts = true) {i : Nat} (hi' : i < cuts.length) : 0 ≤ gI cuts i ∧ gI cuts i < c.length := by
  obtain ⟨h1, h2, h3, h4⟩ := allowed_iff.1 h
  have := al_le (dst_parts h2).1 cuts (-1) h3 i hi'
  omega
theorem allowed_no (hal : ¬ (sig c = true ∧ dstOk lo hi = true ∧ al lo hi (-1) cuts = true ∧ lastOf (-1) cuts = (c.length : Int) - 1)) : allowed c lo hi cuts = false := by
  cases h : allowed c lo hi cuts with
  | false => rfl
  | true => exact absurd (allowed_iff.1 h) hal
theorem costOf_append (c xs ys : List Int) : costOf c (xs ++ ys) = costOf c xs + costOf c ys := by
  induction xs with
  | nil => simp [costOf]
  | cons x xs ih => rw [List.cons_append, costOf, costOf, ih]; omega
theorem costOf_take (c cuts : List Int) (k : Nat) (hk : k < cuts.length) : costOf c (cuts.take (k + 1)) = costOf c (cuts.take k) + gI c (gI cuts k).toNat := by
  rw [List.take_succ_eq_append_getElem hk, costOf_append, gI_lt hk]; simp [costOf]
theorem costOf_bd (h : allowed c lo hi cuts = true) (k : Nat) (hk : k ≤ cuts.length) : 0 ≤ costOf c (cuts.take k) ∧ costOf c (cuts.take k) ≤ 1000 * k := by
  induction k with
  | zero => simp [costOf]
  | succ k ih =>
    have := ih (by omega)
    have h1 := allowed_at h (i := k) (by omega)
    have h2 := ((sig_iff c).1 (allowed_iff.1 h).1).1 (gI cuts k).toNat (by omega)
    rw [costOf_take c cuts k (by omega)]
    omega
end

set_option maxHeartbeats 2000000 in
theorem cutsAllowed_any (A B : Option Addr) (ca cb : Nat) (c cuts : List Int) (lo hi : Int) (w : World) (hr : RdI w w.heap.size .i64 A c) (hs : RdI w w.heap.size .i64 B cuts) (hn : c.length ≤ 1048576) (hm : cuts.length ≤ 1048576) :
    Calls Try.prog 23 #[.slice A c.length ca, .int .i64 lo, .int .i64 hi, .slice B cuts.length cb] w fun e w' => e = .returned (.bool (allowed c lo hi cuts)) ∧ w = w' := by
  go_enter Try.func23, Try.ntmps23
  go_wp2_with fail
  refine (signalValid_any A ca c _ hr hn).mono ?_
  rintro e w' ⟨rfl, rfl⟩
  cases h1 : sig c with
  | false =>
    have hf := allowed_no (c := c) (lo := lo) (hi := hi) (cuts := cuts) (by rw [h1]; simp)
    have HF := Lib.hid hf
    clear h1 hf
    go_wp2
    go_ret
    exact ⟨ret_bool (by rw [HF.out]), rfl⟩
  | true =>
    go_wp2_with fail
    refine (distancesValid_any lo hi _).mono ?_
    rintro e w' ⟨rfl, rfl⟩
    have H1 := Lib.hid h1
    have hsz := ((sig_iff c).1 h1).2
    clear h1
    cases h2 : dstOk lo hi with
    | false =>
      have hf := allowed_no (c := c) (lo := lo) (hi := hi) (cuts := cuts) (by rw [h2]; simp)
      have HF := Lib.hid hf
      clear h2 hf
      go_wp2
      go_ret
      exact ⟨ret_bool (by rw [HF.out]), rfl⟩
    | true =>
      obtain ⟨d1, d2, d3⟩ := dst_parts h2
      have H2 := Lib.hid h2
      clear h2
      by_cases hz : cuts.length = 0
      · have g1 : ((cuts.length : Int) == 0) = true := by simp [hz]
        have hf := allowed_no (c := c) (lo := lo) (hi := hi) (cuts := cuts) (by rw [List.eq_nil_of_length_eq_zero hz, lastOf]; omega)
        have HF := Lib.hid hf
        clear hz hf
        go_wp2
        go_ret
        exact ⟨ret_bool (by rw [HF.out]), rfl⟩
      · have g1 : ((cuts.length : Int) == 0) = false := by simp; intro h; simp [h] at hz
        obtain ⟨b, o, hB, hBB, hcs⟩ := hs (by omega)
        have q1 := hcs (cuts.length - 1) (by omega)
        have hlast := lastOf_get cuts (-1) (by omega)
        have l1 : (0 : Int) ≤ (cuts.length : Int) - 1 ∧ (cuts.length : Int) - 1 < (cuts.length : Int) := by omega
        have l2 : ((cuts.length : Int) - 1).toNat = cuts.length - 1 := by omega
        have l3 : (1 : Int) ≤ (cuts.length : Int) := by omega
        subst hB
        by_cases hq : gI cuts (cuts.length - 1) = (c.length : Int) - 1
        · have g2 : (gI cuts (cuts.length - 1) != (c.length : Int) - 1) = false := by simp [hq]
          have HL := Lib.hid (hlast.trans hq)
          have hq0 : True := trivial
          clear hlast hq
          go_wp2_with fail
          clear q1 g2
          go_loop [40, 9] (fun i v => ∃ (k : Nat) (lst : Int), k ≤ cuts.length ∧ i = .int .i64 k ∧ v = .int .i64 lst ∧ (-1 ≤ lst ∧ lst ≤ 16 * k) ∧ cutAt lo hi cuts k lst) (fun i _ => cuts.length - (intOf i).toNat)
          case atStart => exact ⟨0, -1, Nat.zero_le _, rfl, rfl, ⟨by omega, by omega⟩, cutAt_start⟩
          case round =>
            obtain ⟨k, lst, hk, rfl, rfl, ⟨b1, b2⟩, hat⟩ := hrel
            have HAT := Lib.hid hat
            clear hat
            by_cases hlt : k < cuts.length
            · have e0 := hcs k hlt
              clear hcs
              by_cases g3 : gI cuts k < lst + lo
              · have hf := allowed_no (c := c) (lo := lo) (hi := hi) (cuts := cuts) (by rw [cutAt_no HAT.out hlt (by omega)]; simp)
                have HF := Lib.hid hf
                clear hf
                go_wp2
                go_ret
                exact ⟨ret_bool (by rw [HF.out]), rfl⟩
              · have g3' : decide (gI cuts k < lst + lo) = false := decide_eq_false g3
                by_cases g4 : lst + hi < gI cuts k
                · have hf := allowed_no (c := c) (lo := lo) (hi := hi) (cuts := cuts) (by rw [cutAt_no HAT.out hlt (by omega)]; simp)
                  have HF := Lib.hid hf
                  clear hf
                  go_wp2
                  go_ret
                  exact ⟨ret_bool (by rw [HF.out]), rfl⟩
                · have g4' : decide (lst + hi < gI cuts k) = false := decide_eq_false g4
                  have hy := cutAt_yes HAT.out hlt (by omega) (by omega)
                  have HY := Lib.hid hy
                  clear hy
                  go_wp2
                  exact ⟨⟨k + 1, gI cuts k, hlt, by go_num, rfl, ⟨by omega, by omega⟩, HY.out⟩, by simp [intOf]; omega⟩
            · have hf : allowed c lo hi cuts = true := allowed_iff.2 ⟨H1.out, H2.out, (cutAt_end HAT.out (by omega)).1, HL.out⟩
              have HF := Lib.hid hf
              clear hf hcs
              go_wp2
              go_ret
              exact ⟨ret_bool (by rw [HF.out]), rfl⟩
        · have g2 : (gI cuts (cuts.length - 1) != (c.length : Int) - 1) = true := by simp [hq]
          have hf := allowed_no (c := c) (lo := lo) (hi := hi) (cuts := cuts) (by rw [hlast]; exact fun h => hq h.2.2.2)
          have HF := Lib.hid hf
          clear hf hq hlast hcs
          go_wp2
          go_ret
          exact ⟨ret_bool (by rw [HF.out]), rfl⟩

set_option maxHeartbeats 2000000 in
theorem specCutsAllowed_any (A B : Option Addr) (ca cb : Nat) (c cuts : List Int) (lo hi : Int) (w : World) (hr : RdI w w.heap.size .i64 A c) (hs : RdI w w.heap.size .i64 B cuts) (hn : c.length ≤ 1048576) (hm : cuts.length ≤ 1048576) :
    Calls Try.prog 24 #[.slice A c.length ca, .int .i64 lo, .int .i64 hi, .slice B cuts.length cb] w fun e w' => e = .returned (.bool (allowed c lo hi cuts)) ∧ w = w' := by
  go_enter Try.func24, Try.ntmps24
  go_wp2_with fail
  refine (l15Signal_any A ca c _ hr hn).mono ?_
  rintro e w' ⟨rfl, rfl⟩
  cases h1 : sig c with
  | false =>
    have hf := allowed_no (c := c) (lo := lo) (hi := hi) (cuts := cuts) (by rw [h1]; simp)
    have HF := Lib.hid hf
    clear h1 hf
    go_wp2
    go_ret
    exact ⟨ret_bool (by rw [HF.out]), rfl⟩
  | true =>
    go_wp2_with fail
    refine (l15Range_any lo hi _).mono ?_
    rintro e w' ⟨rfl, rfl⟩
    have H1 := Lib.hid h1
    have hsz := ((sig_iff c).1 h1).2
    clear h1
    cases h2 : dstOk lo hi with
    | false =>
      have hf := allowed_no (c := c) (lo := lo) (hi := hi) (cuts := cuts) (by rw [h2]; simp)
      have HF := Lib.hid hf
      clear h2 hf
      go_wp2
      go_ret
      exact ⟨ret_bool (by rw [HF.out]), rfl⟩
    | true =>
      obtain ⟨d1, d2, d3⟩ := dst_parts h2
      have H2 := Lib.hid h2
      clear h2
      go_wp2_with fail
      go_loop [10, 9] (fun i v => ∃ (k : Nat) (lst : Int), k ≤ cuts.length ∧ i = .int .i64 k ∧ v = .int .i64 lst ∧ (-1 ≤ lst ∧ lst ≤ 16 * k) ∧ cutAt lo hi cuts k lst) (fun i _ => cuts.length - (intOf i).toNat)
      case atStart => exact ⟨0, -1, Nat.zero_le _, rfl, rfl, ⟨by omega, by omega⟩, cutAt_start⟩
      case round =>
        obtain ⟨k, lst, hk, rfl, rfl, ⟨b1, b2⟩, hat⟩ := hrel
        have HAT := Lib.hid hat
        clear hat
        by_cases hlt : k < cuts.length
        · obtain ⟨b, o, hB, hBB, hcs⟩ := hs (by omega)
          subst hB
          have e0 := hcs k hlt
          have l1 : (0 : Int) ≤ (k : Int) := by omega
          have l2 : (k : Int) < (cuts.length : Int) := by omega
          clear hcs
          by_cases g3 : lst + lo ≤ gI cuts k ∧ gI cuts k ≤ lst + hi
          · have g3' : (decide (lst + lo ≤ gI cuts k) && decide (gI cuts k ≤ lst + hi)) = true := by rw [← Bool.decide_and]; exact decide_eq_true g3
            by_cases g4 : (c.length : Int) ≤ gI cuts k
            · have hf := allowed_no (c := c) (lo := lo) (hi := hi) (cuts := cuts) (fun h => by have := al_le d1 cuts (-1) h.2.2.1 k hlt; omega)
              have HF := Lib.hid hf
              clear hf
              go_wp2_with (go_at_call 41; refine (l6In_any _ _ _ _).mono ?_; rintro e w' ⟨rfl, rfl⟩)
              go_ret
              exact ⟨ret_bool (by rw [HF.out]), rfl⟩
            · have g4' : decide ((c.length : Int) ≤ gI cuts k) = false := decide_eq_false g4
              have hy := cutAt_yes HAT.out hlt g3.1 g3.2
              have HY := Lib.hid hy
              clear hy
              go_wp2_with (go_at_call 41; refine (l6In_any _ _ _ _).mono ?_; rintro e w' ⟨rfl, rfl⟩)
              exact ⟨⟨k + 1, gI cuts k, hlt, by go_num, rfl, ⟨by omega, by omega⟩, HY.out⟩, by simp [intOf]; omega⟩
          · have g3' : (decide (lst + lo ≤ gI cuts k) && decide (gI cuts k ≤ lst + hi)) = false := by rw [← Bool.decide_and]; exact decide_eq_false g3
            have hf := allowed_no (c := c) (lo := lo) (hi := hi) (cuts := cuts) (by rw [cutAt_no HAT.out hlt g3]; simp)
            have HF := Lib.hid hf
            clear hf g3
            go_wp2_with (go_at_call 41; refine (l6In_any _ _ _ _).mono ?_; rintro e w' ⟨rfl, rfl⟩)
            go_ret
            exact ⟨ret_bool (by rw [HF.out]), rfl⟩
        · have hf : allowed c lo hi cuts = (lst == (c.length : Int) - 1) := by
            obtain ⟨e1, e2⟩ := cutAt_end HAT.out (by omega)
            rw [allowed, H1.out, H2.out, e1, e2, Bool.eq_iff_iff]; simp
          have HF := Lib.hid hf
          clear hf
          go_wp2
          go_ret
          exact ⟨ret_bool (by rw [HF.out]), rfl⟩

set_option maxHeartbeats 2000000 in
theorem cutsCost_any (A B : Option Addr) (ca cb : Nat) (c cuts : List Int) (lo hi : Int) (w : World) (hr : RdI w w.heap.size .i64 A c) (hs : RdI w w.heap.size .i64 B cuts) (hn : c.length ≤ 1048576) (hm : cuts.length ≤ 1048576) :
    Calls Try.prog 30 #[.slice A c.length ca, .int .i64 lo, .int .i64 hi, .slice B cuts.length cb] w fun e w' => e = .returned (.int .i64 (costV c lo hi cuts)) ∧ w = w' := by
  go_enter Try.func30, Try.ntmps30
  go_wp2_with fail
  refine (cutsAllowed_any A B ca cb c cuts lo hi _ hr hs hn hm).mono ?_
  rintro e w' ⟨rfl, rfl⟩
  cases hv : allowed c lo hi cuts with
  | false =>
    go_wp2
    go_ret
    exact ⟨ret_int (by simp [costV, hv]), rfl⟩
  | true =>
    have HV := Lib.hid hv
    have hsg := ((sig_iff c).1 (allowed_iff.1 hv).1)
    have HS := Lib.hid hsg.1
    obtain ⟨n1, n2⟩ := hsg.2
    clear hv hsg
    go_wp2_with fail
    go_loop [20, 9] (fun i v => ∃ k : Nat, k ≤ cuts.length ∧ i = .int .i64 k ∧ v = .int .i64 (costOf c (cuts.take k))) (fun i _ => cuts.length - (intOf i).toNat)
    case atStart => exact ⟨0, Nat.zero_le _, rfl, rfl⟩
    case round =>
      obtain ⟨k, hk, rfl, rfl⟩ := hrel
      by_cases hlt : k < cuts.length
      · obtain ⟨b, o, hB, hBB, hcs⟩ := hs (by omega)
        obtain ⟨b2, o2, hA, hAB, hcA⟩ := hr (by omega)
        subst hA hB
        have e0 := hcs k hlt
        have hbd := costOf_bd HV.out k (by omega)
        have hat := allowed_at HV.out hlt
        have ht := costOf_take c cuts k hlt
        obtain ⟨p, hp⟩ := Int.eq_ofNat_of_zero_le hat.1
        have hcp := HS.out p (by omega)
        rw [hp, Int.toNat_natCast] at ht
        rw [hp] at e0 hat
        have e1 := hcA p (by omega)
        have l1 : (0 : Int) ≤ (k : Int) := by omega
        have l2 : (k : Int) < (cuts.length : Int) := by omega
        have l3 : (0 : Int) ≤ (p : Int) := by omega
        have l4 : (p : Int) < (c.length : Int) := by omega
        have HT := Lib.hid ht
        clear hcs hcA ht hp
        go_wp2
        exact ⟨⟨k + 1, hlt, by go_num, by rw [HT.out]⟩, by simp [intOf]; omega⟩
      · obtain rfl : k = cuts.length := by omega
        go_wp2
        go_ret
        exact ⟨ret_int (by rw [costV, HV.out]; simp), rfl⟩

set_option maxHeartbeats 2000000 in
theorem specCutsCost_any (A B : Option Addr) (ca cb : Nat) (c cuts : List Int) (lo hi : Int) (w : World) (hr : RdI w w.heap.size .i64 A c) (hs : RdI w w.heap.size .i64 B cuts) (hn : c.length ≤ 1048576) (hm : cuts.length ≤ 1048576) :
    Calls Try.prog 31 #[.slice A c.length ca, .int .i64 lo, .int .i64 hi, .slice B cuts.length cb] w fun e w' => e = .returned (.int .i64 (costV c lo hi cuts)) ∧ w = w' := by
  go_enter Try.func31, Try.ntmps31
  go_wp2_with fail
  refine (specCutsAllowed_any A B ca cb c cuts lo hi _ hr hs hn hm).mono ?_
  rintro e w' ⟨rfl, rfl⟩
  cases hv : allowed c lo hi cuts with
  | false =>
    go_wp2
    go_ret
    exact ⟨ret_int (by simp [costV, hv]), rfl⟩
  | true =>
    have HV := Lib.hid hv
    have hsg := ((sig_iff c).1 (allowed_iff.1 hv).1)
    have HS := Lib.hid hsg.1
    obtain ⟨n1, n2⟩ := hsg.2
    clear hv hsg
    go_wp2_with fail
    go_loop [10, 9] (fun i v => ∃ k : Nat, k ≤ cuts.length ∧ i = .int .i64 k ∧ v = .int .i64 (costOf c (cuts.take k))) (fun i _ => cuts.length - (intOf i).toNat)
    case atStart => exact ⟨0, Nat.zero_le _, rfl, rfl⟩
    case round =>
      obtain ⟨k, hk, rfl, rfl⟩ := hrel
      by_cases hlt : k < cuts.length
      · obtain ⟨b, o, hB, hBB, hcs⟩ := hs (by omega)
        obtain ⟨b2, o2, hA, hAB, hcA⟩ := hr (by omega)
        subst hA hB
        have e0 := hcs k hlt
        have hbd := costOf_bd HV.out k (by omega)
        have hat := allowed_at HV.out hlt
        have ht := costOf_take c cuts k hlt
        obtain ⟨p, hp⟩ := Int.eq_ofNat_of_zero_le hat.1
        have hcp := HS.out p (by omega)
        rw [hp, Int.toNat_natCast] at ht
        rw [hp] at e0 hat
        have e1 := hcA p (by omega)
        have l1 : (0 : Int) ≤ (k : Int) := by omega
        have l2 : (k : Int) < (cuts.length : Int) := by omega
        have l3 : (0 : Int) ≤ (p : Int) := by omega
        have l4 : (p : Int) < (c.length : Int) := by omega
        have HT := Lib.hid ht
        clear hcs hcA ht hp
        go_wp2
        exact ⟨⟨k + 1, hlt, by go_num, by rw [HT.out]⟩, by simp [intOf]; omega⟩
      · obtain rfl : k = cuts.length := by omega
        go_wp2
        go_ret
        exact ⟨ret_int (by rw [costV, HV.out]; simp), rfl⟩

end Go.Proofs.Ytbdhnfligfpigaa
