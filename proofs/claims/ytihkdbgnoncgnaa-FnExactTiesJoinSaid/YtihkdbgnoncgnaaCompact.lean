/- Contracts of the library's compacting and clipping of a row of ties. No condition but that the list is not too long. -/
import Derived.Test.YtihkdbgnoncgnaaJoinLaw
import Derived.Test.YtihkdbgnoncgnaaPairTie
import Derived.Test.YtihkdbgnoncgnaaMore
namespace Go.Proofs.Ytihkdbgnoncgnaa
open Go.RowKit

/-! ## lists -/
theorem pA_eq {l : List (Int × Int)} {i j : Nat} : pA l i = pA l j ↔ fA l i = fA l j ∧ fB l i = fB l j := by
  unfold pA
  constructor
  · intro h; injection h with h1 h2; exact ⟨h1, h2⟩
  · rintro ⟨h1, h2⟩; rw [h1, h2]
theorem cpT_new {l : List (Int × Int)} {k : Nat} (h : ¬ (fA l k = fA l (k - 1) ∧ fB l k = fB l (k - 1))) : cpT l (k + 1) = cpT l k ++ [pA l k] := by
  rw [cpT, if_neg (fun h' => h (pA_eq.1 h'.2))]
theorem cpT_old {l : List (Int × Int)} {k : Nat} (hk : k ≠ 0) (h : fA l k = fA l (k - 1) ∧ fB l k = fB l (k - 1)) : cpT l (k + 1) = cpT l k := by
  rw [cpT, if_pos ⟨hk, pA_eq.2 h⟩]
theorem cpT_one {l : List (Int × Int)} (h : 0 < l.length) : cpT l 1 = l.take 1 := by
  rw [take_succ_pair l 0 h, cpT, if_neg (by omega)]; rfl
theorem cpT_short {l : List (Int × Int)} (h : l.length < 2) : cpT l l.length = l := by
  by_cases h0 : l.length = 0
  · have e : l = [] := List.eq_nil_of_length_eq_zero h0
    subst e; rfl
  · have e : l.length = 1 := by omega
    rw [e, cpT_one (by omega), List.take_of_length_le (by omega)]
/-- The row when q is done. -/
def arrT (q l : List (Int × Int)) : List (Int × Int) := q ++ l.drop q.length
theorem length_arrT {q l : List (Int × Int)} (h : q.length ≤ l.length) : (arrT q l).length = l.length := by simp [arrT]; omega
theorem fAB_arrT {q l : List (Int × Int)} {i : Nat} (h : q.length ≤ i) : fA (arrT q l) i = fA l i ∧ fB (arrT q l) i = fB l i := by
  unfold fA fB arrT
  rw [List.getD_eq_getElem?_getD, List.getElem?_append_right h, List.getElem?_drop, show q.length + (i - q.length) = i by omega, ← List.getD_eq_getElem?_getD]
  exact ⟨rfl, rfl⟩
theorem arrT_set {q l : List (Int × Int)} (p : Int × Int) (h : q.length < l.length) : (arrT q l).set q.length p = arrT (q ++ [p]) l := by
  unfold arrT
  rw [List.set_append, if_neg (by omega), Nat.sub_self, List.length_append, List.append_assoc]
  congr 1
  rw [List.drop_eq_getElem_cons h]
  rfl
theorem cellAt_set (l : List (Int × Int)) (k : Nat) (x y : Int) (hk : k < l.length) (i : Nat) :
    cellAt (l.set k (x, y)) i = if i = k * 2 + 1 then .int .i64 y else if i = k * 2 then .int .i64 x else cellAt l i := by
  have e1 : ∀ j, fA (l.set k (x, y)) j = if k = j then x else fA l j := fun j => by
    unfold fA
    rw [List.getD_eq_getElem?_getD, List.getElem?_set]
    by_cases e : k = j
    · subst e; simp [hk]
    · rw [if_neg e, if_neg e, ← List.getD_eq_getElem?_getD]
  have e2 : ∀ j, fB (l.set k (x, y)) j = if k = j then y else fB l j := fun j => by
    unfold fB
    rw [List.getD_eq_getElem?_getD, List.getElem?_set]
    by_cases e : k = j
    · subst e; simp [hk]
    · rw [if_neg e, if_neg e, ← List.getD_eq_getElem?_getD]
  unfold cellAt
  rw [e1, e2]
  by_cases h : i % 2 = 0
  · have h3 : ¬ i = k * 2 + 1 := by omega
    simp only [h, h3, if_true, if_false]
    by_cases e : k = i / 2
    · rw [if_pos e, if_pos (show i = k * 2 by omega)]
    · rw [if_neg e, if_neg (show ¬ i = k * 2 by omega)]
  · have h3 : ¬ i = k * 2 := by omega
    simp only [h, h3, if_false]
    by_cases e : k = i / 2
    · rw [if_pos e, if_pos (show i = k * 2 + 1 by omega)]
    · rw [if_neg e, if_neg (show ¬ i = k * 2 + 1 by omega)]
section
variable {w : World} {g : Nat} {E : TypeId}
theorem row_store {l : List (Int × Int)} (h : Row w g E (l.length * 2) (cellAt l)) (k : Nat) (x y : Int) (hk : k < l.length) :
    Row ((w.setCell ⟨g, k * 2, none⟩ (.int .i64 x)).setCell ⟨g, k * 2 + 1, none⟩ (.int .i64 y)) g E ((l.set k (x, y)).length * 2) (cellAt (l.set k (x, y))) := by
  rw [List.length_set]
  refine ((h.set (k * 2) (.int .i64 x)).set (k * 2 + 1) (.int .i64 y)).congr fun i hi => ?_
  rw [cellAt_set l k x y hk]
theorem row_less {l : List (Int × Int)} {q : List (Int × Int)} (h : Row w g E ((arrT q l).length * 2) (cellAt (arrT q l))) : Row w g E (q.length * 2) (cellAt q) := by
  obtain ⟨c, hb, hn, hc⟩ := h
  have hl : q.length ≤ (arrT q l).length := by simp [arrT]
  refine ⟨c, hb, by omega, fun i hi => ?_⟩
  rw [hc i (by omega)]
  have hi2 : i / 2 < q.length := by omega
  unfold cellAt fA fB arrT
  rw [List.getD_eq_getElem?_getD, List.getD_eq_getElem?_getD, List.getElem?_append_left hi2]
theorem row_clear {N : Nat} {f : Nat → Value} : ∀ (vs : List Value) (w : World) (o : Nat), N ≤ o → Row w g E N f → Row (w.setCells g o vs) g E N f
  | [], _, _, _, h => h
  | v :: vs, w, o, ho, h => row_clear vs _ _ (by omega) ((h.set o v).congr fun i hi => by rw [if_neg (by omega)])
theorem grown_clear : ∀ (vs : List Value) (w' : World) (o : Nat), w.grownBy w' (some g) → w.grownBy (w'.setCells g o vs) (some g)
  | [], _, _, h => h
  | v :: vs, _, o, h => grown_clear vs _ _ (grownBy_set h o v)
end
theorem cell_arr {w : World} {g : Nat} {E : TypeId} {q l : List (Int × Int)} (h : Row w g E (l.length * 2) (cellAt (arrT q l))) {i : Nat} (hi : i < l.length) (hq : q.length ≤ i) :
    w.cell? ⟨g, i * 2, none⟩ = some (.int .i64 (fA l i)) ∧ w.cell? ⟨g, i * 2 + 1, none⟩ = some (.int .i64 (fB l i)) := by
  have c1 := h.cell (i := i * 2) (by omega)
  have c2 := h.cell (i := i * 2 + 1) (by omega)
  rw [c1, c2]
  unfold cellAt
  rw [if_pos (by omega), if_neg (by omega), show i * 2 / 2 = i by omega, show (i * 2 + 1) / 2 = i by omega, (fAB_arrT hq).1, (fAB_arrT hq).2]
  exact ⟨rfl, rfl⟩
theorem run_clear2 {P : Program} (w : World) (t e : TypeId) (ht : P.underlying t = some (.slice e)) (hv : ∀ w, (zeroValue e).run P w = .ok (.agg #[.int .i64 0, .int .i64 0]) w) (b o n c : Nat) (hn : 0 < n)
    (hc : ∀ j, j < n * 2 → (w.cell? ⟨b, o + j, none⟩).isSome = true) (hf : ∀ j, j < n * 2 → w.frozen? ⟨b, o + j, none⟩ = false) :
    ∃ vs, ∀ ty, (Builtin.clear_ #[t] ty #[.slice (some ⟨b, o, none⟩) n c]).run P w = .ok (.tuple #[]) (w.setCells b o vs) := by
  refine ⟨List.replicate (n * 2) (.int .i64 0), fun ty => ?_⟩
  have hzc : (Builtin.zeroCells (Value.agg #[.int .i64 0, .int .i64 0]).cells n).toList = List.replicate (n * 2) (.int .i64 0) := by
    simp [Builtin.zeroCells, Value.cells]
    apply List.ext_getElem
    · simp
    · intro i h1 h2
      rcases Nat.mod_two_eq_zero_or_one i with h | h <;> simp [h]
  have hst := run_storeCells_cells (P := P) b o (List.replicate (n * 2) (.int .i64 0)) 0 w (by simpa using hc) (by simpa using hf) (by intro v hv'; rw [List.eq_of_mem_replicate hv']; rfl)
  simp only [Nat.add_zero] at hst
  obtain ⟨m, rfl⟩ : ∃ m, n = m + 1 := ⟨n - 1, by omega⟩
  simp [Builtin.clear_, run_underlying ht, hv, hzc, hst]

set_option maxHeartbeats 400000 in
theorem compactShort_any (A : Option Addr) (c : Nat) (l : List (Int × Int)) (w : World) (h : l.length < 2) :
    Calls Try.prog 54 #[.slice A l.length c] w fun e w' => e = .returned (.slice A l.length c) ∧ w = w' := by
  have h' : decide ((l.length : Int) < 2) = true := decide_eq_true (by omega)
  go_enter Try.func54, Try.ntmps54
  go_wp2
  go_ret
  exact ⟨rfl, rfl⟩
def cmpAt (l : List (Int × Int)) (w : World) (g : Nat) (X : List (Int × Int)) (wr : World) : Prop := Row wr g 40 (l.length * 2) (cellAt X) ∧ w.grownBy wr (some g)
set_option maxRecDepth 100000 in
set_option maxHeartbeats 4000000 in
theorem compact_any (g c : Nat) (l : List (Int × Int)) (w : World) (hrow : Row w g 40 (l.length * 2) (cellAt l)) (h2 : 2 ≤ l.length) (hn : l.length ≤ 4194304) (hlc : l.length ≤ c) (hc : c ≤ 9223372036854775807) :
    Calls Try.prog 54 #[.slice (some ⟨g, 0, none⟩) l.length c] w fun e w' => e = .returned (.slice (some ⟨g, 0, none⟩) (cpT l l.length).length c) ∧ Row w' g 40 ((cpT l l.length).length * 2) (cellAt (cpT l l.length)) ∧ w.grownBy w' (some g) := by
  have h2' : decide ((l.length : Int) < 2) = false := decide_eq_false (by omega)
  have GF := fun op xo yo u v w => grdTie op xo yo u v w
  have hst := cpT_one (l := l) (by omega)
  go_enter Try.func54, Try.ntmps54
  go_wp2_with fail
  go_loopw [3] (fun i wr => ∃ k : Nat, 1 ≤ k ∧ k ≤ l.length ∧ i = .int .i64 k ∧ cpT l k = l.take k ∧ cmpAt l w g l wr) (fun i _ => l.length - (intOf i).toNat)
  case atStart => exact ⟨1, Nat.le_refl _, by omega, rfl, hst, hrow, grownBy_refl _ _⟩
  case round =>
    obtain ⟨k, k1, hk, rfl, htk, hr, hg⟩ := hrel
    have HK := Lib.hid htk
    clear htk hrow hst
    by_cases hlt : k < l.length
    · have c1 := hr.cell (i := k * 2) (by omega)
      have c2 := hr.cell (i := k * 2 + 1) (by omega)
      have c3 := hr.cell (i := (k - 1) * 2) (by omega)
      have c4 := hr.cell (i := (k - 1) * 2 + 1) (by omega)
      rw [show cellAt l (k * 2) = .int .i64 (fA l k) by unfold cellAt; rw [if_pos (by omega), show k * 2 / 2 = k by omega]] at c1
      rw [show cellAt l (k * 2 + 1) = .int .i64 (fB l k) by unfold cellAt; rw [if_neg (by omega), show (k * 2 + 1) / 2 = k by omega]] at c2
      rw [show cellAt l ((k - 1) * 2) = .int .i64 (fA l (k - 1)) by unfold cellAt; rw [if_pos (by omega), show (k - 1) * 2 / 2 = k - 1 by omega]] at c3
      rw [show cellAt l ((k - 1) * 2 + 1) = .int .i64 (fB l (k - 1)) by unfold cellAt; rw [if_neg (by omega), show ((k - 1) * 2 + 1) / 2 = k - 1 by omega]] at c4
      have s1 : IntKind.i64.wrap ((k : Int) - 1) = (k : Int) - 1 := IntWalk.i64_in _ (by omega)
      have s2 : ((k : Int) - 1).toNat = k - 1 := by omega
      have l1 : (1 : Int) ≤ (k : Int) ∧ (k : Int) < (l.length : Int) := by omega
      have l2 : (0 : Int) ≤ (k : Int) - 1 ∧ (k : Int) - 1 < (l.length : Int) := by omega
      have hln : (l.take k).length = k := by rw [List.length_take]; omega
      by_cases hd : fA l k = fA l (k - 1) ∧ fB l k = fB l (k - 1)
      · have hold := cpT_old (l := l) (k := k) (by omega) hd
        have HO := Lib.hid (hold.trans HK.out)
        have HL := Lib.hid hln
        obtain ⟨d1, d2⟩ := hd
        rw [d1] at c1
        rw [d2] at c2
        clear hold d1 d2 hln
        go_wp2_with fail
        go_quiet (fail)
        have hck : ¬ c = k := by omega
        have l3 : (k : Int) ≤ (c : Int) := by omega
        go_wp2_with fail
        go_loopw [3, 5] (fun i j wx => ∃ k2 : Nat, 1 ≤ k2 ∧ k + k2 ≤ l.length ∧ i = .int .i64 ((cpT l (k + k2)).length : Nat) ∧ j = .int .i64 k2 ∧ (cpT l (k + k2)).length + 1 ≤ k + k2 ∧ cmpAt l w g (arrT (cpT l (k + k2)) l) wx) (fun _ j _ => l.length - (intOf j).toNat)
        case atStart =>
          refine ⟨1, Nat.le_refl _, by omega, by rw [HO.out, HL.out], rfl, by rw [HO.out, HL.out]; omega, ?_⟩
          rw [HO.out, arrT, HL.out, List.take_append_drop]
          exact ⟨hr.drewN _, grownBy_drewN hg _⟩
        case round =>
          clear c1 c2 c3 c4 hr hg
          obtain ⟨k2, p1, p2, rfl, rfl, p3, hr2, hg2⟩ := hrel
          have s3 : IntKind.i64.wrap ((k2 : Int) - 1) = (k2 : Int) - 1 := IntWalk.i64_in _ (by omega)
          have s4 : ((k2 : Int) - 1).toNat = k2 - 1 := by omega
          have l4 : (1 : Int) ≤ (k2 : Int) ∧ (0 : Int) ≤ (k2 : Int) - 1 := by omega
          have hf := fun i => hr2.frozen i
          by_cases hlt2 : k + k2 < l.length
          · obtain ⟨a1, a2⟩ := cell_arr hr2 hlt2 (by omega)
            obtain ⟨a3, a4⟩ := cell_arr hr2 (i := k + k2 - 1) (by omega) (by omega)
            rw [show (k + k2) * 2 = k * 2 + k2 * 2 by omega] at a1 a2
            rw [show (k + k2 - 1) * 2 = k * 2 + (k2 - 1) * 2 by omega] at a3 a4
            have l5 : k2 < l.length - k := by omega
            have l6 : k2 - 1 < l.length - k := by omega
            have l7 : (k2 : Int) - 1 < ((l.length - k : Nat) : Int) := by omega
            by_cases hd : fA l (k + k2) = fA l (k + k2 - 1) ∧ fB l (k + k2) = fB l (k + k2 - 1)
            · have HE := Lib.hid (cpT_old (l := l) (k := k + k2) (by omega) hd)
              obtain ⟨d1, d2⟩ := hd
              rw [d1] at a1
              rw [d2] at a2
              clear d1 d2 hf
              go_wp2_with fail
              go_quiet (fail)
              go_wp2
              refine ⟨⟨k2 + 1, by omega, by omega, ?_, by go_num, ?_, ?_⟩, by simp [intOf]; omega⟩
              · rw [← Nat.add_assoc, HE.out]
              · rw [← Nat.add_assoc, HE.out]; omega
              · rw [← Nat.add_assoc, HE.out]; exact ⟨hr2.drewN _, grownBy_drewN hg2 _⟩
            · have HE := Lib.hid (cpT_new (l := l) (k := k + k2) hd)
              have hql : (cpT l (k + k2)).length < l.length := by omega
              obtain ⟨b1, b2⟩ := cell_arr hr2 hql (Nat.le_refl _)
              have hall := length_arrT (q := cpT l (k + k2)) (l := l) (by omega)
              have hst2 := fun (wz : World) (h : Row wz g 40 (l.length * 2) (cellAt (arrT (cpT l (k + k2)) l))) (x y : Int) => by
                have h' := h
                rw [← hall] at h'
                have h3 := row_store h' (cpT l (k + k2)).length x y (by rw [hall]; exact hql)
                rwa [arrT_set _ hql, length_arrT (by simp; omega)] at h3
              have ST := Lib.hid hst2
              have f1 := hf ((cpT l (k + k2)).length * 2)
              have b2' : ∀ m u, ((wr.drewN m).setCell ⟨g, (cpT l (k + k2)).length * 2, none⟩ u).cell? ⟨g, (cpT l (k + k2)).length * 2 + 1, none⟩ = some (.int .i64 (fB l (cpT l (k + k2)).length)) := fun m u => (World.cell?_setCell_other _ _ _ _ (fun e => by injection e with _ e; omega)).trans b2
              have f2 : ∀ m u, ((wr.drewN m).setCell ⟨g, (cpT l (k + k2)).length * 2, none⟩ u).frozen? ⟨g, (cpT l (k + k2)).length * 2 + 1, none⟩ = false := fun m u => ((hr2.drewN m).set _ u).frozen _
              clear hall hst2 hf b2
              generalize hx : fA l (k + k2) = x at *
              generalize hy : fB l (k + k2) = y at *
              have HXY := Lib.hid (And.intro hx hy)
              clear hx hy
              have hne : x ≠ fA l (k + k2 - 1) ∨ x = fA l (k + k2 - 1) ∧ y ≠ fB l (k + k2 - 1) := by
                by_cases e : x = fA l (k + k2 - 1)
                · exact .inr ⟨e, fun e2 => hd ⟨e, e2⟩⟩
                · exact .inl e
              clear hd
              generalize fA l (k + k2 - 1) = x0 at *
              generalize fB l (k + k2 - 1) = y0 at *
              generalize hq : cpT l (k + k2) = q at *
              have hpA := Lib.hid (show pA l (k + k2) = (x, y) by unfold pA; rw [HXY.out.1, HXY.out.2])
              rcases hne with e | ⟨e, e2⟩
              · go_wp2_with fail
                go_quiet (fail)
                clear e
                go_wp2
                refine ⟨⟨k2 + 1, by omega, by omega, ?_, by go_num, ?_, ?_⟩, by simp [intOf]; omega⟩
                · rw [← Nat.add_assoc, HE.out, List.length_append]; go_num
                · rw [← Nat.add_assoc, HE.out, List.length_append]; simp; omega
                · rw [← Nat.add_assoc, HE.out, hpA.out]
                  have h1 := ST.out _ (hr2.drewN nq) x y
                  have h2 := grownBy_set (grownBy_set (grownBy_drewN hg2 nq) (q.length * 2) (.int .i64 x)) (q.length * 2 + 1) (.int .i64 y)
                  exact ⟨h1, h2⟩
              · subst e
                go_wp2_with fail
                go_quiet (fail)
                clear e2
                go_wp2
                refine ⟨⟨k2 + 1, by omega, by omega, ?_, by go_num, ?_, ?_⟩, by simp [intOf]; omega⟩
                · rw [← Nat.add_assoc, HE.out, List.length_append]; go_num
                · rw [← Nat.add_assoc, HE.out, List.length_append]; simp; omega
                · rw [← Nat.add_assoc, HE.out, hpA.out]
                  have h1 := ST.out _ (hr2.drewN nq) x y
                  have h2 := grownBy_set (grownBy_set (grownBy_drewN hg2 nq) (q.length * 2) (.int .i64 x)) (q.length * 2 + 1) (.int .i64 y)
                  exact ⟨h1, h2⟩
          · have e : k + k2 = l.length := by omega
            have hqn : (cpT l (k + k2)).length < l.length := by omega
            have hck2 : ¬ c = (cpT l (k + k2)).length := by omega
            obtain ⟨vs, hcl⟩ := run_clear2 (P := Try.prog) wr 23 40 Try.underlying23 Try.zeroValue40 g ((cpT l (k + k2)).length * 2) (l.length - (cpT l (k + k2)).length) (c - (cpT l (k + k2)).length) (by omega) (fun j hj => by rw [hr2.cell (by omega)]; rfl) (fun j _ => hr2.frozen _)
            have HE := Lib.hid (show cpT l l.length = cpT l (k + k2) by rw [e])
            have hr3 : Row wr g 40 ((arrT (cpT l (k + k2)) l).length * 2) (cellAt (arrT (cpT l (k + k2)) l)) := by rw [length_arrT (by omega)]; exact hr2
            have l8 : ((cpT l (k + k2)).length : Int) ≤ (c : Int) ∧ ((cpT l (k + k2)).length : Int) ≤ (l.length : Int) := by omega
            have l9 : ¬ k2 < l.length - k := by omega
            generalize cpT l (k + k2) = q at *
            clear e hf p3 hr2
            go_wp2
            go_ret
            rw [HE.out]
            exact ⟨rfl, row_clear vs _ _ (Nat.le_refl _) (row_less hr3), grown_clear vs _ _ hg2⟩
      · have hnew := cpT_new (l := l) (k := k) hd
        have HN := Lib.hid (show cpT l (k + 1) = l.take (k + 1) by rw [hnew, HK.out, take_succ_pair l k hlt]; rfl)
        clear hnew hln
        by_cases d1 : fA l k = fA l (k - 1)
        · have d2 : ¬ fB l k = fB l (k - 1) := fun h => hd ⟨d1, h⟩
          rw [d1] at c1
          clear hd d1
          go_wp2_with fail
          go_quiet (fail)
          clear d2
          go_wp2
          exact ⟨⟨k + 1, by omega, hlt, by go_num, HN.out, hr.drewN _, grownBy_drewN hg _⟩, by simp [intOf]; omega⟩
        · clear hd
          go_wp2_with fail
          go_quiet (fail)
          clear d1
          go_wp2
          exact ⟨⟨k + 1, by omega, hlt, by go_num, HN.out, hr.drewN _, grownBy_drewN hg _⟩, by simp [intOf]; omega⟩
    · have e : k = l.length := by omega
      subst e
      go_wp2
      go_ret
      rw [List.take_length] at HK
      exact ⟨by rw [HK.out]; rfl, by rw [HK.out]; exact hr, hg⟩
end Go.Proofs.Ytihkdbgnoncgnaa
