/- Contracts of the reference's joining of ties. No condition but that the lists have at most 1048576 elements. -/
import Derived.Test.YtihkdbgnoncgnaaJoinTop
namespace Go.Proofs.Ytihkdbgnoncgnaa
open Go.RowKit

set_option maxRecDepth 100000 in
set_option maxHeartbeats 8000000 in
theorem l21All_any (A B : Option Addr) (c d : Nat) (a b : List (Int × Int)) (w : World) (hr : Rd w w.heap.size A a) (hs : Rd w w.heap.size B b) (hn : a.length ≤ 1048576) (hm : b.length ≤ 1048576) :
    Calls Try.prog 38 #[.slice A a.length c, .slice B b.length d] w (RetS w 40 (mg a b)) := by
  have GF := fun op xo yo u v w => grdTie op xo yo u v w
  have acc0 : Acc2 w (w.alloc (.cells #[] 40)) 40 (.slice (some ⟨w.heap.size, 0, none⟩) 0 0) [] := ⟨World.ownsRow_made w #[] 0 (Nat.le_refl _) (by decide) rfl, (Below.refl _ _).alloc (Nat.le_refl _) _⟩
  go_enter Try.func38, Try.ntmps38
  go_wp2_with fail
  go_loopw [6, 7, 5] (fun i k v wr => mgAt a b w i k v wr) (fun i k _ _ => a.length + b.length - ((intOf i).toNat + (intOf k).toNat))
  case atStart => exact ⟨0, 0, [], Nat.zero_le _, Nat.zero_le _, rfl, rfl, Nat.le_refl _, rfl, acc0⟩
  case round =>
    obtain ⟨p, q, acc, hp, hq, rfl, rfl, hal, hmg, hacc⟩ := hrel
    clear acc0
    have HM := Lib.hid hmg
    have hln : acc.length + 1 ≤ 4294967296 := by omega
    have l0 : (0 : Int) ≤ (p : Int) ∧ (0 : Int) ≤ (q : Int) := by omega
    clear hmg
    by_cases h1 : p < a.length
    · by_cases h2 : q < b.length
      ·
        obtain ⟨ba, oa, hAA, hBA, hcsA⟩ := hr (by omega)
        subst hAA
        have xA := (hacc.2.cell (p := ⟨ba, _, none⟩) hBA).trans (hcsA p (by omega)).1
        have yA := (hacc.2.cell (p := ⟨ba, _, none⟩) hBA).trans (hcsA p (by omega)).2
        clear hcsA
        obtain ⟨bb, ob, hAB, hBB, hcsB⟩ := hs (by omega)
        subst hAB
        have xB := (hacc.2.cell (p := ⟨bb, _, none⟩) hBB).trans (hcsB q (by omega)).1
        have yB := (hacc.2.cell (p := ⟨bb, _, none⟩) hBB).trans (hcsB q (by omega)).2
        clear hcsB
        have l1 : (p : Int) < (a.length : Int) ∧ (q : Int) < (b.length : Int) := by omega
        have l2 : ((q : Int) == (b.length : Int)) = false := by simp; omega
        have l3 : ((p : Int) == (a.length : Int)) = false := by simp; omega
        by_cases c1 : fA a p < fA b q
        ·
          have HE0 : mg (a.drop p) (b.drop q) = pA a p :: mg (a.drop (p + 1)) (b.drop q) := mgA h1 (.inr ⟨h2, c1⟩)
          have HE := Lib.hid HE0
          clear HE0
          have HP := Lib.hid (show pA a p = (fA a p, fB a p) from rfl)
          have HQ := Lib.hid (show pA b q = (fA b q, fB b q) from rfl)
          generalize fA a p = xa at *
          generalize fB a p = ya at *
          generalize fA b q = xb at *
          generalize fB b q = yb at *
          rw [HP.out] at HE
          go_wp2_with fail
          go_quiet (fail)
          clear c1
          go_wp2_with (at_builtin; refine wpList_app2 rfl _ _ _ rfl Try.underlying23 infoTie rfl (by first | exact hacc.drewN _ | exact (hacc.drewN _).drewN _ | exact hacc) _ _ _ _ (by first | rfl | simp) rfl hln ?_; intro v1 w2 hacc1)
          refine ⟨⟨p + 1, q, acc ++ [(xa, ya)], by omega, by omega, by first | rfl | go_num, by first | rfl | go_num, by rw [List.length_append]; simp; omega, ?_, hacc1⟩, by simp [intOf]; omega⟩
          have hm := HM.out
          rw [HE.out, List.append_cons] at hm
          exact hm
        · have c1' : decide (fA a p < fA b q) = false := decide_eq_false c1
          by_cases c2 : fA b q < fA a p
          ·
            have HE0 : mg (a.drop p) (b.drop q) = pA b q :: mg (a.drop p) (b.drop (q + 1)) := mgB h2 (.inr ⟨h1, c1, .inl c2⟩)
            have HE := Lib.hid HE0
            clear HE0
            have HP := Lib.hid (show pA a p = (fA a p, fB a p) from rfl)
            have HQ := Lib.hid (show pA b q = (fA b q, fB b q) from rfl)
            generalize fA a p = xa at *
            generalize fB a p = ya at *
            generalize fA b q = xb at *
            generalize fB b q = yb at *
            rw [HQ.out] at HE
            clear c1
            go_wp2_with fail
            go_quiet (fail)
            go_wp2_with fail
            go_quiet (fail)
            clear c2
            go_wp2_with (at_builtin; refine wpList_app2 rfl _ _ _ rfl Try.underlying23 infoTie rfl (by first | exact hacc.drewN _ | exact (hacc.drewN _).drewN _ | exact hacc) _ _ _ _ (by first | rfl | simp) rfl hln ?_; intro v1 w2 hacc1)
            refine ⟨⟨p, q + 1, acc ++ [(xb, yb)], by omega, by omega, by first | rfl | go_num, by first | rfl | go_num, by rw [List.length_append]; simp; omega, ?_, hacc1⟩, by simp [intOf]; omega⟩
            have hm := HM.out
            rw [HE.out, List.append_cons] at hm
            exact hm
          · have c2' : decide (fA b q < fA a p) = false := decide_eq_false c2
            have c3 : fA a p = fA b q := by omega
            by_cases c4 : fB a p = fB b q
            ·
              have HE0 : mg (a.drop p) (b.drop q) = pA a p :: mg (a.drop (p + 1)) (b.drop (q + 1)) := mgC h1 h2 ⟨c3, c4⟩
              have HE := Lib.hid HE0
              clear HE0
              have HP := Lib.hid (show pA a p = (fA a p, fB a p) from rfl)
              have HQ := Lib.hid (show pA b q = (fA b q, fB b q) from rfl)
              generalize fA a p = xa at *
              generalize fB a p = ya at *
              generalize fA b q = xb at *
              generalize fB b q = yb at *
              rw [HP.out] at HE
              clear c1 c2
              subst c3 c4
              go_wp2_with fail
              go_quiet (fail)
              go_wp2_with fail
              go_quiet (fail)
              go_wp2_with (at_builtin; refine wpList_app2 rfl _ _ _ rfl Try.underlying23 infoTie rfl (by first | exact hacc.drewN _ | exact (hacc.drewN _).drewN _ | exact hacc) _ _ _ _ (by first | rfl | simp) rfl hln ?_; intro v1 w2 hacc1)
              refine ⟨⟨p + 1, q + 1, acc ++ [(xa, ya)], by omega, by omega, by first | rfl | go_num, by first | rfl | go_num, by rw [List.length_append]; simp; omega, ?_, hacc1⟩, by simp [intOf]; omega⟩
              have hm := HM.out
              rw [HE.out, List.append_cons] at hm
              exact hm
            ·
              have HE0 : mg (a.drop p) (b.drop q) = pA b q :: mg (a.drop p) (b.drop (q + 1)) := mgB h2 (.inr ⟨h1, c1, .inr fun h => c4 h.2⟩)
              have HE := Lib.hid HE0
              clear HE0
              have HP := Lib.hid (show pA a p = (fA a p, fB a p) from rfl)
              have HQ := Lib.hid (show pA b q = (fA b q, fB b q) from rfl)
              generalize fA a p = xa at *
              generalize fB a p = ya at *
              generalize fA b q = xb at *
              generalize fB b q = yb at *
              rw [HQ.out] at HE
              clear c1 c2
              subst c3
              go_wp2_with fail
              go_quiet (fail)
              go_wp2_with fail
              go_quiet (fail)
              clear c4
              go_wp2_with (at_builtin; refine wpList_app2 rfl _ _ _ rfl Try.underlying23 infoTie rfl (by first | exact hacc.drewN _ | exact (hacc.drewN _).drewN _ | exact hacc) _ _ _ _ (by first | rfl | simp) rfl hln ?_; intro v1 w2 hacc1)
              refine ⟨⟨p, q + 1, acc ++ [(xa, yb)], by omega, by omega, by first | rfl | go_num, by first | rfl | go_num, by rw [List.length_append]; simp; omega, ?_, hacc1⟩, by simp [intOf]; omega⟩
              have hm := HM.out
              rw [HE.out, List.append_cons] at hm
              exact hm
      · obtain rfl : q = b.length := by omega
        obtain ⟨ba, oa, hAA, hBA, hcsA⟩ := hr (by omega)
        subst hAA
        have xA := (hacc.2.cell (p := ⟨ba, _, none⟩) hBA).trans (hcsA p (by omega)).1
        have yA := (hacc.2.cell (p := ⟨ba, _, none⟩) hBA).trans (hcsA p (by omega)).2
        clear hcsA
        have l1 : (p : Int) < (a.length : Int) := by omega
        have l2 : ((b.length : Int) == (b.length : Int)) = true := by simp
        have HE0 : mg (a.drop p) (b.drop b.length) = pA a p :: mg (a.drop (p + 1)) (b.drop b.length) := mgA h1 (.inl (Nat.le_refl _))
        have HE := Lib.hid HE0
        clear HE0
        have HP := Lib.hid (show pA a p = (fA a p, fB a p) from rfl)
        generalize fA a p = xa at *
        generalize fB a p = ya at *
        rw [HP.out] at HE
        go_wp2_with fail
        go_quiet (fail)
        go_wp2_with (at_builtin; refine wpList_app2 rfl _ _ _ rfl Try.underlying23 infoTie rfl (by first | exact hacc.drewN _ | exact (hacc.drewN _).drewN _ | exact hacc) _ _ _ _ (by first | rfl | simp) rfl hln ?_; intro v1 w2 hacc1)
        refine ⟨⟨p + 1, b.length, acc ++ [(xa, ya)], by omega, Nat.le_refl _, by go_num, rfl, by rw [List.length_append]; simp; omega, ?_, hacc1⟩, by simp [intOf]; omega⟩
        have hm := HM.out
        rw [HE.out, List.append_cons] at hm
        exact hm
    · obtain rfl : p = a.length := by omega
      by_cases h2 : q < b.length
      ·
        obtain ⟨bb, ob, hAB, hBB, hcsB⟩ := hs (by omega)
        subst hAB
        have xB := (hacc.2.cell (p := ⟨bb, _, none⟩) hBB).trans (hcsB q (by omega)).1
        have yB := (hacc.2.cell (p := ⟨bb, _, none⟩) hBB).trans (hcsB q (by omega)).2
        clear hcsB
        have l1 : (q : Int) < (b.length : Int) := by omega
        have l2 : ((a.length : Int) == (a.length : Int)) = true := by simp
        have l3 : ((q : Int) == (b.length : Int)) = false := by simp; omega
        have HE0 : mg (a.drop a.length) (b.drop q) = pA b q :: mg (a.drop a.length) (b.drop (q + 1)) := mgB h2 (.inl (Nat.le_refl _))
        have HE := Lib.hid HE0
        clear HE0
        have HQ := Lib.hid (show pA b q = (fA b q, fB b q) from rfl)
        generalize fA b q = xb at *
        generalize fB b q = yb at *
        rw [HQ.out] at HE
        go_wp2_with fail
        go_quiet (fail)
        go_wp2_with fail
        go_quiet (fail)
        go_wp2_with (at_builtin; refine wpList_app2 rfl _ _ _ rfl Try.underlying23 infoTie rfl (by first | exact hacc.drewN _ | exact (hacc.drewN _).drewN _ | exact hacc) _ _ _ _ (by first | rfl | simp) rfl hln ?_; intro v1 w2 hacc1)
        refine ⟨⟨a.length, q + 1, acc ++ [(xb, yb)], Nat.le_refl _, by omega, rfl, by go_num, by rw [List.length_append]; simp; omega, ?_, hacc1⟩, by simp [intOf]; omega⟩
        have hm := HM.out
        rw [HE.out, List.append_cons] at hm
        exact hm
      · obtain rfl : q = b.length := by omega
        go_wp2
        go_ret
        obtain ⟨A2, c2, rfl⟩ := hacc.shape
        have hm := HM.out
        rw [List.drop_length, List.drop_length, mg, List.append_nil] at hm
        subst hm
        exact ⟨A2, c2, rfl, hacc⟩
end Go.Proofs.Ytihkdbgnoncgnaa
