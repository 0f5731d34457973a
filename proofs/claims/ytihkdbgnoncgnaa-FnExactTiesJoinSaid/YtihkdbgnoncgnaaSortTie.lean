/- Contract of the library's sort on lists of ties: the row holds them in order. No condition but that the list is not too long. -/
import Derived.Test.YtihkdbgnoncgnaaLay
import Derived.Test.YtihkdbgnoncgnaaJoinLaw
import Derived.Test.YtihkdbgnoncgnaaPlan
namespace Go.Proofs.Ytihkdbgnoncgnaa
open Go.RowKit Go.Sort

/-! ## comparing -/
def cmpI (x y : Int) : Int := if x < y then -1 else if y < x then 1 else 0
def cmpT (x y : Int × Int) : Int := if cmpI x.1 y.1 = 0 then cmpI x.2 y.2 else cmpI x.1 y.1
def encT (x : Int × Int) : List Value := [.int .i64 x.1, .int .i64 x.2]
theorem ltT (x y : Int × Int) : ltOf cmpT x y = lexB x y := by
  rw [Bool.eq_iff_iff, lexB_iff]
  unfold ltOf cmpT cmpI Lex2
  rw [decide_eq_true_eq]
  by_cases h1 : x.1 < y.1
  · simp [h1]
  · by_cases h2 : y.1 < x.1
    · simp [h1, h2]; omega
    · have e : x.1 = y.1 := by omega
      by_cases h3 : x.2 < y.2
      · simp [h3, e]
      · by_cases h4 : y.2 < x.2 <;> simp [h3, h4, e]
theorem swoT : SWO (ltOf cmpT) where
  irrefl x := by rw [ltT, lexB_no]; unfold Lex2; omega
  trans x y z h1 h2 := by rw [ltT, lexB_iff] at *; unfold Lex2 at *; omega
  ntrans x y z h1 h2 := by rw [ltT, lexB_no] at *; unfold Lex2 at *; omega
theorem totT (x y : Int × Int) (h1 : ltOf cmpT x y = false) (h2 : ltOf cmpT y x = false) : x = y := by
  rw [ltT, lexB_no] at *
  unfold Lex2 at *
  exact Prod.ext (by omega) (by omega)
set_option maxHeartbeats 400000 in
theorem isNaN_any (x : Int) (w : World) : Calls Try.prog 67 #[.int .i64 x] w fun e w' => e = .returned (.bool false) ∧ w = w' := by
  have g : (x != x) = false := by simp
  go_enter Try.func67, Try.ntmps67
  go_wp2
  go_ret
  exact ⟨rfl, rfl⟩
set_option maxHeartbeats 1000000 in
theorem compare_any (x y : Int) (w : World) : Calls Try.prog 52 #[.int .i64 x, .int .i64 y] w fun e w' => e = .returned (.int .i64 (cmpI x y)) ∧ w = w' := by
  by_cases h1 : x < y
  · have e : cmpI x y = -1 := by unfold cmpI; rw [if_pos h1]
    rw [e]
    clear e
    go_enter Try.func52, Try.ntmps52
    go_wp2_with (go_at_call 67; refine (isNaN_any _ _).mono ?_; rintro e w' ⟨rfl, rfl⟩)
    go_ret
    exact ⟨rfl, rfl⟩
  · have h1' : decide (x < y) = false := decide_eq_false h1
    by_cases h2 : y < x
    · have e : cmpI x y = 1 := by unfold cmpI; rw [if_neg h1, if_pos h2]
      rw [e]
      clear e
      go_enter Try.func52, Try.ntmps52
      go_wp2_with (go_at_call 67; refine (isNaN_any _ _).mono ?_; rintro e w' ⟨rfl, rfl⟩)
      go_ret
      exact ⟨rfl, rfl⟩
    · have h2' : decide (y < x) = false := decide_eq_false h2
      have e : cmpI x y = 0 := by unfold cmpI; rw [if_neg h1, if_neg h2]
      rw [e]
      clear e
      go_enter Try.func52, Try.ntmps52
      go_wp2_with (go_at_call 67; refine (isNaN_any _ _).mono ?_; rintro e w' ⟨rfl, rfl⟩)
      go_ret
      exact ⟨rfl, rfl⟩
set_option maxHeartbeats 1000000 in
theorem or_any (g c : Nat) (x y : Int) (w : World) (h0 : w.cell? ⟨g, 0, none⟩ = some (.int .i64 x)) (h1 : w.cell? ⟨g, 1, none⟩ = some (.int .i64 y)) :
    Calls Try.prog 51 #[.slice (some ⟨g, 0, none⟩) 2 c] w fun e w' => e = .returned (.int .i64 (if x = 0 then y else x)) ∧ w = w' := by
  by_cases hx : x = 0
  · rw [if_pos hx]
    have g1 : (x != 0) = false := by simp [hx]
    clear hx
    go_enter Try.func51, Try.ntmps51
    go_wp2
    go_loop [8] (fun i => i = .int .i64 0 ∨ i = .int .i64 1 ∨ i = .int .i64 2 ∧ y = 0) (fun i => 2 - (intOf i).toNat)
    case atStart => exact .inl rfl
    case round =>
      rcases hrel with rfl | rfl | ⟨rfl, hy⟩
      · go_wp2
        exact ⟨.inr (.inl rfl), by simp [intOf]⟩
      · by_cases hy : y = 0
        · have g2 : (y != 0) = false := by simp [hy]
          have HY := Lib.hid hy
          clear hy
          go_wp2
          exact ⟨.inr (.inr ⟨rfl, HY.out⟩), by simp [intOf]⟩
        · have g2 : (y != 0) = true := by simpa using hy
          clear hy
          go_wp2
          go_ret
          exact ⟨rfl, rfl⟩
      · have HY := Lib.hid hy
        clear hy
        go_wp2
        go_ret
        exact ⟨by rw [HY.out]; rfl, rfl⟩
  · rw [if_neg hx]
    have g1 : (x != 0) = true := by simpa using hx
    clear hx
    go_enter Try.func51, Try.ntmps51
    go_wp2
    go_loop [8] (fun i => i = .int .i64 0) (fun _ => 0)
    case atStart => rfl
    case round =>
      subst hrel
      go_wp2
      go_ret
      exact ⟨rfl, rfl⟩
set_option maxHeartbeats 2000000 in
theorem closureT (x y : Int × Int) (W : World) :
    Calls Try.prog 50 #[.agg #[.int .i64 x.1, .int .i64 x.2], .agg #[.int .i64 y.1, .int .i64 y.2]] W fun e w' => e = .returned (.int .i64 (cmpT x y)) ∧ ∃ q os', w' = grow (W.drewN q) os' := by
  obtain ⟨x1, x2⟩ := x
  obtain ⟨y1, y2⟩ := y
  have HT := Lib.hid (show cmpT (x1, x2) (y1, y2) = if cmpI x1 y1 = 0 then cmpI x2 y2 else cmpI x1 y1 from rfl)
  have hX := (Blk.new_ W 40 #[.int .i64 x1, .int .i64 x2]).alloc (.cells #[.int .i64 y1, .int .i64 y2] 40)
  have hY : Blk ((W.alloc (.cells #[.int .i64 x1, .int .i64 x2] 40)).alloc (.cells #[.int .i64 y1, .int .i64 y2] 40)) (W.heap.size + 1) 40 #[.int .i64 y1, .int .i64 y2] := by
    have h := Blk.new_ (W.alloc (.cells #[.int .i64 x1, .int .i64 x2] 40)) 40 #[.int .i64 y1, .int .i64 y2]
    rw [World.size_alloc] at h; exact h
  have hq : ∃ os, ∀ n, ((W.alloc (.cells #[.int .i64 x1, .int .i64 x2] 40)).alloc (.cells #[.int .i64 y1, .int .i64 y2] 40)).drewN n = grow (W.drewN n) os := ⟨_, fun n => by rw [alloc_eq_grow, alloc_eq_grow, grow_grow]; rfl⟩
  dsimp only
  go_enter Try.func50, Try.ntmps50
  go_wp2_with fail
  generalize (W.alloc (.cells #[.int .i64 x1, .int .i64 x2] 40)).alloc (.cells #[.int .i64 y1, .int .i64 y2] 40) = W2 at hX hY hq ⊢
  have he1 : ∀ i : SW (Below W2.heap.size W2), (sw i).cell? ⟨W.heap.size, 0, none⟩ = some (.int .i64 x1) := fun i => ((sw_is i).cell (p := ⟨W.heap.size, _, none⟩) hX.lt).trans (hX.cell 0)
  have he2 : ∀ i : SW (Below W2.heap.size W2), (sw i).cell? ⟨W.heap.size, 1, none⟩ = some (.int .i64 x2) := fun i => ((sw_is i).cell (p := ⟨W.heap.size, _, none⟩) hX.lt).trans (hX.cell 1)
  have he3 : ∀ i : SW (Below W2.heap.size W2), (sw i).cell? ⟨W.heap.size + 1, 0, none⟩ = some (.int .i64 y1) := fun i => ((sw_is i).cell (p := ⟨W.heap.size + 1, _, none⟩) hY.lt).trans (hY.cell 0)
  have he4 : ∀ i : SW (Below W2.heap.size W2), (sw i).cell? ⟨W.heap.size + 1, 1, none⟩ = some (.int .i64 y2) := fun i => ((sw_is i).cell (p := ⟨W.heap.size + 1, _, none⟩) hY.lt).trans (hY.cell 1)
  refine wp_region_plan (Below W2.heap.size W2) [([0, 1, 2, 3, 5, 6, 7, 8], 4), ([], 9), ([], 10), ([], 11)] [12] (by kernel_rfl) (by kernel_rfl) (below_drewN (Below.refl _ _) 1) fun hne => ?_
  simp only [wpPlan, wpEff, effOf, opsAt, optCons, List.getElem?_toArray, List.getElem?_cons_zero, List.getElem?_cons_succ]
  have S0 := below_drewN (Below.refl W2.heap.size W2) 1
  repeat (go_big_quiet_step (fail))
  refine wpQuiet_nil ?_
  go_wp2_with fail
  refine (compare_any x1 y1 _).mono ?_
  rintro e w3 ⟨rfl, rfl⟩
  go_wp2_with fail
  refine effQ_normal S0 ?_
  refine wpQuiet_nil ?_
  go_wp2_with fail
  refine (compare_any x2 y2 _).mono ?_
  rintro e w4 ⟨rfl, rfl⟩
  go_wp2_with fail
  refine effQ_normal S0 ?_
  refine wpQuiet_nil ?_
  go_wp2
  refine effQ_normal (S0.alloc S0.size _) ?_
  refine wpQuiet_nil ?_
  have hO := Blk.new_ (W2.drewN 1) 3 #[.int .i64 (cmpI x1 y1), .int .i64 (cmpI x2 y2)]
  go_wp2_with fail
  refine (or_any _ 2 (cmpI x1 y1) (cmpI x2 y2) _ (hO.cell 0) (hO.cell 1)).mono ?_
  rintro e w5 ⟨rfl, rfl⟩
  rw [← HT.out]
  go_wp2_with fail
  refine effQ_normal (S0.alloc S0.size _) ?_
  repeat (go_big_quiet_step (fail))
  refine wpQuiet_nil ?_
  refine noPan_normal ?_
  go_wp2
  go_ret
  obtain ⟨os, ho⟩ := hq
  exact ⟨rfl, 1, _, by rw [ho, alloc_eq_grow, grow_grow]⟩
theorem cmpLaysT (blk off size : Nat) (w : World) : CmpLays Try.prog 50 #[] encT 2 cmpT blk off size w := fun _ _ _ _ x y => closureT x y _

/-! ## the sort -/
theorem get_encT (l : List (Int × Int)) (i : Nat) (hi : i < l.length * 2) : (flatK encT 2 l.toArray)[i]! = cellAt l i := by
  rw [get_flatK _ _ _ _ (by simpa using hi)]
  have hk : i / 2 < l.length := by omega
  have e : l.toArray[i / 2]! = l[i / 2] := by simp [hk]
  rw [e]
  unfold encT cellAt
  rcases Nat.mod_two_eq_zero_or_one i with h | h
  · rw [h, if_pos rfl, fA_lt hk]; rfl
  · rw [h, if_neg (by omega), fB_lt hk]; rfl
theorem holdsT {w : World} {g : Nat} {E : TypeId} {l : List (Int × Int)} (h : Row w g E (l.length * 2) (cellAt l)) : HoldsK encT 2 w g 0 l.toArray := fun j hj => by
  have hj' : j < l.length * 2 := by simpa using hj
  rw [Nat.zero_add, get_encT l j hj']
  exact ⟨h.cell hj', h.frozen j⟩
theorem row_put {w : World} {g n : Nat} {E : TypeId} {l l' : List (Int × Int)} (os : Array Obj) (h : Row w g E (l.length * 2) (cellAt l)) (hl : l'.length = l.length) :
    Row (sortWorldK encT 2 w g 0 n l'.toArray os) g E (l'.length * 2) (cellAt l') ∧ w.grownBy (sortWorldK encT 2 w g 0 n l'.toArray os) (some g) := by
  obtain ⟨c, hb, hn, hc⟩ := h
  have hlt : g < w.heap.size := (Array.getElem?_eq_some_iff.1 hb).1
  have hz : (Sort.ahead w n).heap = w.heap := rfl
  refine ⟨⟨putCells id 0 (flatK encT 2 l'.toArray) c, ?_, by simp [putCells]; omega, fun i hi => ?_⟩, rfl, rfl, rfl, ?_, fun i hi hne => ?_⟩
  · unfold sortWorldK putRowK putRow mapBlock
    rw [heap_grow_old _ _ (by simp; exact hlt)]
    simp only [hz, Array.getElem?_modify, if_true, hb, Option.map_some, onCells]
  · rw [hl] at hi
    simp only [putCells, Array.getElem?_mapIdx, hc i hi, Option.map_some]
    rw [if_pos ⟨Nat.zero_le _, by simp; omega⟩, Nat.sub_zero, get_encT l' i (by omega)]; rfl
  · unfold sortWorldK putRowK putRow mapBlock
    rw [size_grow]; simp
  · unfold sortWorldK putRowK putRow mapBlock
    rw [heap_grow_old _ _ (by simp; exact hi)]
    simp only [hz, Array.getElem?_modify]
    rw [if_neg (fun e => hne (by rw [e]))]
theorem sortTies_any (g c : Nat) (l : List (Int × Int)) (w : World) (h : Row w g 40 (l.length * 2) (cellAt l)) (hn : l.length ≤ 4194304) :
    Calls Try.prog 49 #[.slice (some ⟨g, 0, none⟩) l.length c, .func (.func 50) #[] #[]] w fun e w' =>
      e = .returned (.tuple #[]) ∧ Row w' g 40 (l.length * 2) (cellAt (sortL l)) ∧ w.grownBy w' (some g) := by
  have eg : ∀ args w, (callFunc 50 args).run Try.prog w = .ok (.enter 50 args) w := enters_of Try.func50 (by kernel_rfl) rfl
  have hcon := AnyQ.slices_SortFunc_total sortTie 2 Try.isAgg40 Try.sizeOf40 encT (fun _ => rfl) (fun x v hv => by simp [encT] at hv; rcases hv with rfl | rfl <;> rfl) cmpT swoT 50 #[] g 0 c l.toArray w eg (cmpLaysT g 0 l.toArray.size w) (holdsT h) h.lt (by simp; omega) totT
  have hs : (l.toArray.toList.mergeSort fun x y => !(ltOf cmpT) y x) = sortL l := by
    have e : (fun x y => !(ltOf cmpT) y x) = fun x y => !lexB y x := by funext x y; rw [ltT]
    rw [e]; rfl
  rw [hs] at hcon
  refine (show Calls Try.prog 49 #[.slice (some ⟨g, 0, none⟩) l.length c, .func (.func 50) #[] #[]] w _ from hcon).mono ?_
  rintro e w' ⟨he, n, os, rfl⟩
  obtain ⟨h1, h2⟩ := row_put (n := n) os h (sortL_len l)
  rw [sortL_len] at h1
  exact ⟨he, h1, h2⟩
theorem sortNone_any (p : Option Addr) (c : Nat) (fv : Value) (w : World) :
    Calls Try.prog 49 #[.slice p 0 c, fv] w fun e w' => e = .returned (.tuple #[]) ∧ w = w' :=
  (show Calls Try.prog 49 #[.slice p 0 c, fv] w _ from AnyF.slices_SortFunc_none sortTie p c fv w).mono fun _ _ h => ⟨h.1, h.2.symm⟩
end Go.Proofs.Ytihkdbgnoncgnaa
