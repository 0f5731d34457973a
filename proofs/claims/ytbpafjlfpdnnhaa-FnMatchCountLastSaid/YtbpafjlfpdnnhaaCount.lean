/- Contracts of MatchCount, in the program and in the reference. No condition but that the lists have at most 1048576 elements. -/
import Derived.Test.YtbpafjlfpdnnhaaPairTable
import Derived.Test.YtbpafjlfpdnnhaaAlike
import Derived.Test.YtbpafjlfpdnnhaaMM
namespace Go.Proofs.Ytbpafjlfpdnnhaa
open Go.RowKit

/-- The table of counts with the rows from ki on done, and of the row ahead of them the places from kk on. -/
def cTab (t : Int) (xs ys : List Int) (ki kk r c : Nat) : Int := if ki ≤ r ∨ (r + 1 = ki ∧ kk ≤ c) then (cAt t xs ys r c : Nat) else 0
/-- While the place (i, k) is summed. -/
def pTab (t : Int) (xs ys : List Int) (i k p r c : Nat) : Int := if r = i ∧ c = k then (cVal t xs ys i k p : Nat) else cTab t xs ys (i + 1) (k + 1) r c
section
variable {t : Int} {xs ys : List Int} {i k r c p : Nat}
theorem cTab_next (hc : c < ys.length + 1) : cTab t xs ys (i + 1) 0 r c = cTab t xs ys i (ys.length + 1) r c := by
  unfold cTab
  by_cases h : i + 1 ≤ r ∨ (r + 1 = i + 1 ∧ 0 ≤ c)
  · rw [if_pos h, if_pos (by omega)]
  · rw [if_neg h, if_neg (by omega)]
theorem cTab_first (hr : r < xs.length + 1) (hc : c < ys.length + 1) : cTab t xs ys (xs.length + 1) (ys.length + 1) r c = 0 := by
  unfold cTab; rw [if_neg (by omega)]
theorem cTab_last : cTab t xs ys 0 k r c = (cAt t xs ys r c : Nat) := by unfold cTab; rw [if_pos (by omega)]
theorem cTab_row : cTab t xs ys (i + 1) k (i + 1) c = (cAt t xs ys (i + 1) c : Nat) := by unfold cTab; rw [if_pos (by omega)]
theorem cTab_set {v : Int} (hv : v = (cAt t xs ys i k : Nat)) : (if r = i ∧ c = k then v else cTab t xs ys (i + 1) (k + 1) r c) = cTab t xs ys (i + 1) k r c := by
  by_cases h : r = i ∧ c = k
  · obtain ⟨rfl, rfl⟩ := h
    rw [if_pos ⟨rfl, rfl⟩, hv]; unfold cTab; rw [if_pos (by omega)]
  · rw [if_neg h]
    unfold cTab
    by_cases h2 : i + 1 ≤ r ∨ (r + 1 = i + 1 ∧ k + 1 ≤ c)
    · rw [if_pos h2, if_pos (by omega)]
    · rw [if_neg h2, if_neg (by omega)]
theorem pTab_here : pTab t xs ys i k p i k = (cVal t xs ys i k p : Nat) := by unfold pTab; rw [if_pos ⟨rfl, rfl⟩]
theorem pTab_row : pTab t xs ys i k p (i + 1) c = (cAt t xs ys (i + 1) c : Nat) := by unfold pTab; rw [if_neg (by omega), cTab_row]
theorem pTab_set {v : Int} {q : Nat} (hv : v = (cVal t xs ys i k q : Nat)) : (if r = i ∧ c = k then v else pTab t xs ys i k p r c) = pTab t xs ys i k q r c := by
  unfold pTab
  by_cases h : r = i ∧ c = k
  · rw [if_pos h, if_pos h, hv]
  · rw [if_neg h, if_neg h, if_neg h]
theorem pTab_end (hi : i < xs.length) (hk : k ≤ ys.length) : pTab t xs ys i k ys.length r c = cTab t xs ys (i + 1) k r c := by
  unfold pTab; rw [cVal_end hi hk]; exact cTab_set rfl
theorem pTab_no (h : cVal t xs ys i k (p + 1) = cVal t xs ys i k p) : pTab t xs ys i k p r c = pTab t xs ys i k (p + 1) r c := by
  unfold pTab; rw [h]
end
def mcV (a b : List (Int × Int)) (t : Int) : Int := if mtb a b t then (countL t (szL a) (szL b) : Nat) else -1
theorem mcV_yes {a b : List (Int × Int)} {t : Int} (h : mtb a b t = true) : mcV a b t = (countL t (szL a) (szL b) : Nat) := by unfold mcV; rw [if_pos h]
theorem mcV_no {a b : List (Int × Int)} {t : Int} (h : mtb a b t = false) : mcV a b t = -1 := by unfold mcV; rw [h]; rfl
theorem cAt_00 (t : Int) (xs ys : List Int) : cAt t xs ys 0 0 = countL t xs ys := rfl

set_option maxRecDepth 100000 in
set_option maxHeartbeats 4000000 in
theorem matchCount_any (A B : Option Addr) (ca cb : Nat) (a b : List (Int × Int)) (t : Int) (w : World) (hr : Rd w w.heap.size A a) (hs : Rd w w.heap.size B b) (hn : a.length ≤ 1048576) (hm : b.length ≤ 1048576) :
    Calls Try.prog 25 #[.slice A a.length ca, .slice B b.length cb, .int .i64 t] w fun e w' => e = .returned (.int .i64 (mcV a b t)) ∧ Below w.heap.size w w' := by
  go_enter Try.func25, Try.ntmps25
  go_wp2_with fail
  refine (matchable_any A B ca cb a b t _ hr hs hn hm).mono ?_
  rintro e w1 ⟨rfl, h1⟩
  cases hv : mtb a b t with
  | false =>
    go_wp2
    go_ret
    exact ⟨ret_int (mcV_no hv).symm, h1⟩
  | true =>
    obtain ⟨va, vb, _, _⟩ := mtb_parts hv
    have la := ev_len va
    have lb := ev_len vb
    have HV := Lib.hid hv
    have VA := Lib.hid va
    have VB := Lib.hid vb
    go_wp2_with fail
    clear hv va vb
    refine (pairTable_any A B ca cb a.length b.length _ (by omega) (by omega)).mono ?_
    rintro e w2 ⟨g, c, h, rfl, tb, h2⟩
    have hb0 := h1.trans (h2.mono h1.size)
    have hgw : w.heap.size ≤ g ∧ ∀ i, i < a.length + 1 → w.heap.size ≤ h i := ⟨Nat.le_trans h1.size tb.1, fun i hi => Nat.le_trans h1.size (tb.blk hi)⟩
    have HG := Lib.hid hgw
    have tb1 := tb.congr (f' := cTab t (szL a) (szL b) ((szL a).length + 1) ((szL b).length + 1)) fun _ _ hi hk => (cTab_first (by rw [length_szL]; exact hi) (by rw [length_szL]; exact hk)).symm
    rw [length_szL, length_szL] at tb1
    clear tb h2 hgw
    go_wp2_with fail
    go_loopw [8] (fun i wr => ∃ k : Nat, k ≤ a.length + 1 ∧ i = .int .i64 ((k : Int) - 1) ∧ Tb wr w1.heap.size g 36 3 (a.length + 1) (b.length + 1) h (cTab t (szL a) (szL b) k (b.length + 1)) ∧ Below w.heap.size w wr) (fun i _ => (intOf i + 1).toNat)
    case atStart => exact ⟨a.length + 1, Nat.le_refl _, by go_num, tb1, hb0⟩
    case round =>
      obtain ⟨k, hk, rfl, ht, hbl⟩ := hrel
      clear tb1 hb0
      cases k with
      | zero =>
        have q1 := ht.cellS (i := 0) (by omega)
        have q2 := ht.cellI (i := 0) (k := 0) (by omega) (by omega)
        rw [cTab_last, cAt_00, ← mcV_yes HV.out] at q2
        have l1 : (0 : Int) < (a.length : Int) + 1 := by omega
        have l2 : (0 : Int) < (b.length : Int) + 1 := by omega
        go_wp2_with fail
        go_ret
        exact ⟨rfl, hbl⟩
      | succ i =>
        rw [show ((i + 1 : Nat) : Int) - 1 = (i : Int) by omega]
        have hi0 : (0 : Int) ≤ (i : Int) := by omega
        go_wp2_with fail
        go_loopw [9] (fun j wx => ∃ k : Nat, k ≤ b.length + 1 ∧ j = .int .i64 ((k : Int) - 1) ∧ Tb wx w1.heap.size g 36 3 (a.length + 1) (b.length + 1) h (cTab t (szL a) (szL b) (i + 1) k) ∧ Below w.heap.size w wx) (fun j _ => (intOf j + 1).toNat)
        case atStart => exact ⟨b.length + 1, Nat.le_refl _, by go_num, ht, hbl⟩
        case round =>
          obtain ⟨k, hkk, rfl, ht, hbl⟩ := hrel
          cases k with
          | zero =>
            go_wp2_with fail
            exact ⟨⟨i, by omega, by go_num, ht.congr fun _ _ _ hc => by rw [← length_szL b] at hc ⊢; exact cTab_next hc, hbl⟩, by simp [intOf]⟩
          | succ k =>
            rw [show ((k + 1 : Nat) : Int) - 1 = (k : Int) by omega]
            have hk0 : (0 : Int) ≤ (k : Int) := by omega
            have q1 := ht.cellS (i := i) (by omega)
            have q5 := ht.frozen (i := i) (by omega) k
            have q6 := ht.cellI (i := i) (k := k) (by omega) (by omega)
            have l1 : (i : Int) < (a.length : Int) + 1 := by omega
            have l3 : (k : Int) < (b.length : Int) + 1 := by omega
            by_cases hia : i = a.length
            · have hia2 : ((i : Int) == (a.length : Int)) = true := by simp [hia]
              have HI := Lib.hid hia
              clear hia
              go_wp2_with fail
              refine ⟨⟨k, by omega, by go_num, (ht.set (i := i) (by omega) k 1).congr fun _ _ _ _ => ?_, hbl.setCell (p := ⟨h i, k, none⟩) (HG.out.2 i (by omega)) _⟩, by simp [intOf]⟩
              exact cTab_set (by rw [cAt_left (by rw [length_szL, HI.out]; exact Nat.le_refl _)]; rfl)
            · have hia2 : ((i : Int) == (a.length : Int)) = false := by simp; omega
              have l2 : (i : Int) + 1 < (a.length : Int) + 1 := by omega
              have s1 : IntKind.i64.wrap ((i : Int) + 1) = (i : Int) + 1 := IntWalk.i64_in _ (by omega)
              have s3 : (0 : Int) ≤ (i : Int) + 1 := by omega
              have s5 : ((i : Int) + 1).toNat = i + 1 := by omega
              have q2 := ht.cellS (i := i + 1) (by omega)
              have q3 := ht.cellI (i := i + 1) (k := k) (by omega) (by omega)
              rw [cTab_row] at q3
              have hil : i < a.length := by omega
              clear hia
              go_wp2_with fail
              refine wp_region_tailQ 13 (by kernel_rfl) (by kernel_rfl) ?_
              simp only [List.take_succ_cons, List.take_zero, List.drop_succ_cons, List.drop_zero]
              repeat (go_big_quiet_step (fail))
              refine wpQuiet_nil ?_
              go_wp2_with fail
              have tb2 := ((ht.drewN 1).set (i := i) (by omega) k (cAt t (szL a) (szL b) (i + 1) k : Int)).congr (f' := pTab t (szL a) (szL b) i k k) fun _ _ _ _ => by unfold pTab; rw [cVal_start]
              have bl2 : Below w.heap.size w ((wr.drewN 1).setCell ⟨h i, k, none⟩ (.int .i64 (cAt t (szL a) (szL b) (i + 1) k : Int))) := (below_drewN hbl 1).setCell (p := ⟨h i, k, none⟩) (HG.out.2 i (by omega)) _
              generalize (wr.drewN 1).setCell ⟨h i, k, none⟩ (.int .i64 (cAt t (szL a) (szL b) (i + 1) k : Int)) = wy at tb2 bl2 ⊢
              clear q1 q2 q3 q5 q6 ht hbl
              go_loopw [10] (fun j wx => ∃ p : Nat, k ≤ p ∧ p ≤ b.length ∧ j = .int .i64 p ∧ Tb wx w1.heap.size g 36 3 (a.length + 1) (b.length + 1) h (pTab t (szL a) (szL b) i k p) ∧ Below w.heap.size w wx) (fun j _ => b.length - (intOf j).toNat)
              case atStart => exact ⟨k, Nat.le_refl _, by omega, rfl, tb2, bl2⟩
              case round =>
                obtain ⟨p, hkp, hpb, rfl, ht, hbl⟩ := hrel
                clear tb2 bl2
                by_cases hlt : p < b.length
                · have hp0 : (0 : Int) ≤ (p : Int) := by omega
                  have l5 : (i : Int) < (a.length : Int) := by omega
                  have l6 : (p : Int) < (b.length : Int) := by omega
                  have l7 : (p : Int) + 1 < (b.length : Int) + 1 := by omega
                  have s2 : IntKind.i64.wrap ((p : Int) + 1) = (p : Int) + 1 := IntWalk.i64_in _ (by omega)
                  have s4 : (0 : Int) ≤ (p : Int) + 1 := by omega
                  have s6 : ((p : Int) + 1).toNat = p + 1 := by omega
                  obtain ⟨z1, z2⟩ := ev_small VA.out i (by omega)
                  obtain ⟨z3, z4⟩ := ev_small VB.out p (by omega)
                  obtain ⟨bA, oA, hA, hAB, hcA⟩ := (hr.below hbl) (by omega)
                  obtain ⟨bB, oB, hB, hBB, hcB⟩ := (hs.below hbl) (by omega)
                  subst hA hB
                  obtain ⟨e1, e2⟩ := hcA i (by omega)
                  obtain ⟨e3, e4⟩ := hcB p (by omega)
                  have g1 : bA < wr.heap.size := by have := hbl.size; omega
                  have g2 : bB < wr.heap.size := by have := hbl.size; omega
                  clear hcA hcB
                  go_wp2_with fail
                  cases hlk : lk t (fB a i) (fB b p) with
                  | true =>
                    have hl : lk t (gI (szL a) i) (gI (szL b) p) = true := by rw [gI_szL, gI_szL]; exact hlk
                    have hy := cVal_yes (t := t) (xs := szL a) (ys := szL b) (i := i) hkp hl
                    have hz := cVal_le (t := t) (xs := szL a) (ys := szL b) (i := i) (k := k) (p := p + 1) (by rw [length_szL]; omega) (by omega) (by rw [length_szL]; omega)
                    have hz2 := cAt_le (t := t) (xs := szL a) (ys := szL b) (i := i) (k := k) (by rw [length_szL]; omega) (by rw [length_szL]; omega)
                    have s7 : IntKind.i64.wrap ((cVal t (szL a) (szL b) i k p : Int) + (cAt t (szL a) (szL b) (i + 1) (p + 1) : Int)) = (cVal t (szL a) (szL b) i k p : Int) + (cAt t (szL a) (szL b) (i + 1) (p + 1) : Int) := IntWalk.i64_in _ (by omega)
                    have HY := Lib.hid hy
                    clear hy hl hz hz2
                    refine wp_region_bw (by kernel_rfl) (by kernel_rfl) ?_
                    repeat (go_big_quiet_step ((go_at_call 46; exact bw_ret (alike_is hlk _ (by omega) (by omega) (by omega) (by omega)))))
                    refine wpQuiet_nil ?_
                    intro wx hx
                    have tb3 := ht.below hx
                    have bl3 := hbl.trans (hx.mono hbl.size)
                    clear hx ht hbl e1 e2 e3 e4 g1 g2
                    have q1 := tb3.cellS (i := i) (by omega)
                    have q2 := tb3.cellS (i := i + 1) (by omega)
                    have q3 := tb3.cellI (i := i + 1) (k := p + 1) (by omega) (by omega)
                    have q4 := tb3.cellI (i := i) (k := k) (by omega) (by omega)
                    have q5 := tb3.frozen (i := i) (by omega) k
                    rw [pTab_row] at q3
                    rw [pTab_here] at q4
                    go_wp2_with fail
                    refine wp_region_tailQ 17 (by kernel_rfl) (by kernel_rfl) ?_
                    simp only [List.take_succ_cons, List.take_zero, List.drop_succ_cons, List.drop_zero]
                    repeat (go_big_quiet_step (fail))
                    refine wpQuiet_nil ?_
                    go_wp2_with fail
                    refine ⟨⟨p + 1, by omega, by omega, by go_num, ((tb3.drewN 1).set (i := i) (by omega) k _).congr fun _ _ _ _ => ?_, (below_drewN bl3 1).setCell (p := ⟨h i, k, none⟩) (HG.out.2 i (by omega)) _⟩, by simp [intOf]; omega⟩
                    exact pTab_set (by rw [HY.out]; omega)
                  | false =>
                    have hl : lk t (gI (szL a) i) (gI (szL b) p) = false := by rw [gI_szL, gI_szL]; exact hlk
                    have hy := cVal_no (t := t) (xs := szL a) (ys := szL b) (i := i) hkp hl
                    have HY := Lib.hid hy
                    clear hy hl
                    refine wp_region_bw (by kernel_rfl) (by kernel_rfl) ?_
                    repeat (go_big_quiet_step ((go_at_call 46; exact bw_ret (alike_is hlk _ (by omega) (by omega) (by omega) (by omega)))))
                    refine wpQuiet_nil ?_
                    intro wx hx
                    have tb3 := ht.below hx
                    have bl3 := hbl.trans (hx.mono hbl.size)
                    clear hx ht hbl e1 e2 e3 e4 g1 g2
                    go_wp2_with fail
                    exact ⟨⟨p + 1, by omega, by omega, by go_num, tb3.congr fun _ _ _ _ => pTab_no HY.out, bl3⟩, by simp [intOf]; omega⟩
                · obtain rfl : p = b.length := by omega
                  go_wp2_with fail
                  exact ⟨⟨k, by omega, by go_num, ht.congr fun _ _ _ _ => by rw [← length_szL b]; exact pTab_end (by rw [length_szL]; omega) (by rw [length_szL]; omega), hbl⟩, by simp [intOf]⟩

set_option maxHeartbeats 2000000 in
theorem l16Count_any (A B : Option Addr) (ca cb : Nat) (a b : List (Int × Int)) (t : Int) (hn : a.length ≤ 8) (hm : b.length ≤ 8) (ha : ∀ k, k < a.length → -1000000 ≤ fB a k ∧ fB a k ≤ 1000000) (hb : ∀ k, k < b.length → -1000000 ≤ fB b k ∧ fB b k ≤ 1000000) :
    ∀ (n i k : Nat) (w : World), i + n = a.length → k ≤ b.length → Rd w w.heap.size A a → Rd w w.heap.size B b →
    Calls Try.prog 44 #[.slice A a.length ca, .slice B b.length cb, .int .i64 t, .int .i64 i, .int .i64 k] w fun e w' => e = .returned (.int .i64 (cAt t (szL a) (szL b) i k : Nat)) ∧ Below w.heap.size w w' := by
  intro n
  induction n with
  | zero =>
    intro i k w hi hk hr hs
    have h1 : ((i : Int) == (a.length : Int)) = true := by simp; omega
    have h2 : cAt t (szL a) (szL b) i k = 1 := cAt_left (by rw [length_szL]; omega)
    have H2 := Lib.hid h2
    clear hi h2 ha hb
    go_enter Try.func44, Try.ntmps44
    go_wp2
    go_ret
    exact ⟨ret_int (by rw [H2.out]; rfl), Below.refl _ _⟩
  | succ n ih =>
    intro i k w hi hk hr hs
    have h1 : ((i : Int) == (a.length : Int)) = false := by simp; omega
    have hi2 : i + 1 + n = a.length := by omega
    have hil : i < a.length := by omega
    have HI := Lib.hid hi2
    have IH := Lib.hid ih
    have HA := Lib.hid ha
    have HB := Lib.hid hb
    clear hi hi2 ih ha hb
    go_enter Try.func44, Try.ntmps44
    go_wp2_with fail
    have hc := IH.out (i + 1) k w HI.out hk hr hs
    rw [show ((i + 1 : Nat) : Int) = (i : Int) + 1 by omega] at hc
    refine hc.mono ?_
    rintro e w1 ⟨rfl, b1⟩
    clear hc
    go_wp2_with fail
    go_loopw [12, 11] (fun j v wr => ∃ p : Nat, k ≤ p ∧ p ≤ b.length ∧ j = .int .i64 p ∧ v = .int .i64 (cVal t (szL a) (szL b) i k p : Nat) ∧ Below w.heap.size w wr) (fun j _ _ => b.length - (intOf j).toNat)
    case atStart => exact ⟨k, Nat.le_refl _, hk, rfl, by rw [cVal_start], b1⟩
    case round =>
      obtain ⟨p, hkp, hpb, rfl, rfl, hbl⟩ := hrel
      clear b1
      by_cases hlt : p < b.length
      · have hp0 : (0 : Int) ≤ (p : Int) := by omega
        have hi0 : (0 : Int) ≤ (i : Int) := by omega
        have l5 : (i : Int) < (a.length : Int) := by omega
        have l6 : (p : Int) < (b.length : Int) := by omega
        obtain ⟨z1, z2⟩ := HA.out i (by omega)
        obtain ⟨z3, z4⟩ := HB.out p (by omega)
        obtain ⟨bA, oA, hA, hAB, hcA⟩ := (hr.below hbl) (by omega)
        obtain ⟨bB, oB, hB, hBB, hcB⟩ := (hs.below hbl) (by omega)
        subst hA hB
        obtain ⟨e1, e2⟩ := hcA i (by omega)
        obtain ⟨e3, e4⟩ := hcB p (by omega)
        have g1 : bA < wr.heap.size := by have := hbl.size; omega
        have g2 : bB < wr.heap.size := by have := hbl.size; omega
        clear hcA hcB
        have s2 : IntKind.i64.wrap ((p : Int) + 1) = (p : Int) + 1 := IntWalk.i64_in _ (by omega)
        go_wp2_with fail
        cases hlk : lk t (fB a i) (fB b p) with
        | true =>
          have hl : lk t (gI (szL a) i) (gI (szL b) p) = true := by rw [gI_szL, gI_szL]; exact hlk
          have hy := cVal_yes (t := t) (xs := szL a) (ys := szL b) (i := i) hkp hl
          have hz := cVal_le (t := t) (xs := szL a) (ys := szL b) (i := i) (k := k) (p := p + 1) (by rw [length_szL]; omega) (by omega) (by rw [length_szL]; omega)
          have hz2 := cAt_le (t := t) (xs := szL a) (ys := szL b) (i := i) (k := k) (by rw [length_szL]; omega) (by rw [length_szL]; omega)
          have s7 : IntKind.i64.wrap ((cVal t (szL a) (szL b) i k p : Int) + (cAt t (szL a) (szL b) (i + 1) (p + 1) : Int)) = (cVal t (szL a) (szL b) i k p : Int) + (cAt t (szL a) (szL b) (i + 1) (p + 1) : Int) := IntWalk.i64_in _ (by omega)
          have hz3 : (cVal t (szL a) (szL b) i k p : Int) + (cAt t (szL a) (szL b) (i + 1) (p + 1) : Int) ≤ 100000 := by omega
          have HY := Lib.hid hy
          clear hy hl hz hz2
          refine wp_region_bw (by kernel_rfl) (by kernel_rfl) ?_
          repeat (go_big_quiet_step ((go_at_call 47; exact bw_ret (l16Like_is hlk _ (by omega) (by omega) (by omega) (by omega)))))
          refine wpQuiet_nil ?_
          intro wx hx
          have bl3 := hbl.trans (hx.mono hbl.size)
          have hr3 := (hr.below bl3).more bl3.size
          have hs3 := (hs.below bl3).more bl3.size
          clear hx hbl e1 e2 e3 e4 g1 g2
          go_wp2_with fail
          have hc := IH.out (i + 1) (p + 1) wx HI.out (by omega) hr3 hs3
          rw [show ((i + 1 : Nat) : Int) = (i : Int) + 1 by omega, show ((p + 1 : Nat) : Int) = (p : Int) + 1 by omega] at hc
          refine hc.mono ?_
          rintro e w4 ⟨rfl, b4⟩
          clear hc
          go_wp2_with fail
          exact ⟨⟨p + 1, by omega, by omega, by go_num, by rw [HY.out]; go_num, bl3.trans (b4.mono bl3.size)⟩, by simp [intOf]; omega⟩
        | false =>
          have hl : lk t (gI (szL a) i) (gI (szL b) p) = false := by rw [gI_szL, gI_szL]; exact hlk
          have hy := cVal_no (t := t) (xs := szL a) (ys := szL b) (i := i) hkp hl
          have HY := Lib.hid hy
          clear hy hl
          refine wp_region_bw (by kernel_rfl) (by kernel_rfl) ?_
          repeat (go_big_quiet_step ((go_at_call 47; exact bw_ret (l16Like_is hlk _ (by omega) (by omega) (by omega) (by omega)))))
          refine wpQuiet_nil ?_
          intro wx hx
          have bl3 := hbl.trans (hx.mono hbl.size)
          clear hx hbl e1 e2 e3 e4 g1 g2
          go_wp2_with fail
          exact ⟨⟨p + 1, by omega, by omega, by go_num, by rw [HY.out], bl3⟩, by simp [intOf]; omega⟩
      · obtain rfl : p = b.length := by omega
        go_wp2_with fail
        go_ret
        refine ⟨ret_int ?_, hbl⟩
        have := cVal_end (t := t) (xs := szL a) (ys := szL b) (i := i) (k := k) (by rw [length_szL]; omega) (by rw [length_szL]; omega)
        rw [length_szL] at this
        rw [this]

set_option maxHeartbeats 1000000 in
theorem specMatchCount_any (A B : Option Addr) (ca cb : Nat) (a b : List (Int × Int)) (t : Int) (w : World) (hr : Rd w w.heap.size A a) (hs : Rd w w.heap.size B b) (hn : a.length ≤ 1048576) (hm : b.length ≤ 1048576) :
    Calls Try.prog 24 #[.slice A a.length ca, .slice B b.length cb, .int .i64 t] w fun e w' => e = .returned (.int .i64 (mcV a b t)) ∧ Below w.heap.size w w' := by
  go_enter Try.func24, Try.ntmps24
  go_wp2_with fail
  refine (l16Ok_any A B ca cb a b t _ hr hs hn hm).mono ?_
  rintro e w1 ⟨rfl, h1⟩
  have hr1 := hr.to h1
  have hs1 := hs.to h1
  cases hv : mtb a b t with
  | false =>
    go_wp2
    go_ret
    exact ⟨ret_int (mcV_no hv).symm, h1⟩
  | true =>
    obtain ⟨va, vb, _, _⟩ := mtb_parts hv
    have la := ev_len va
    have lb := ev_len vb
    go_wp2_with fail
    refine (l16Count_any A B ca cb a b t la lb (ev_small va) (ev_small vb) a.length 0 0 _ (by omega) (by omega) hr1 hs1).mono ?_
    rintro e w2 ⟨rfl, h2⟩
    have e1 := mcV_yes hv
    rw [cAt_00, ← e1]
    clear e1
    go_wp2
    go_ret
    exact ⟨rfl, h1.trans (h2.mono h1.size)⟩

end Go.Proofs.Ytbpafjlfpdnnhaa
