/- Contract of the reference's table of most pairs. No condition but that the lists are short. -/
import Derived.Test.YtihkdbgnoncgnaaMost
namespace Go.Proofs.Ytihkdbgnoncgnaa
open Go.RowKit

/-- k rows of M zeros hang in a slice of the call's own. -/
def RowsT (w wr : World) (v : Value) (k M : Nat) : Prop :=
  ∃ h : Nat → Nat, wr.ownsRow w.heap.size 42 1 v k ((List.range k).map fun i => .slice (some ⟨h i, 0, none⟩) M M) ∧
    (∀ i, i < k → w.heap.size ≤ h i ∧ v.ownBlock ≠ some (h i) ∧ Row wr (h i) 3 M (fun _ => .int .i64 0) ∧ ∀ j, j < k → h j = h i → j = i) ∧ Below w.heap.size w wr
theorem RowsT.start (w : World) (M : Nat) : RowsT w (w.alloc (.cells #[] 42)) (.slice (some ⟨w.heap.size, 0, none⟩) 0 0) 0 M :=
  ⟨fun _ => 0, World.ownsRow_made w #[] 0 (Nat.le_refl _) (by decide) rfl, fun i hi => by omega, (Below.refl _ _).alloc (Nat.le_refl _) _⟩
theorem Row.of_ownG {w : World} {g base n cap : Nat} {E : TypeId} {xs : List Value} {F : Nat → Value} (h : w.ownsRow base E 1 (.slice (some ⟨g, 0, none⟩) n cap) n xs) (hF : ∀ i, i < n → xs[i]? = some (F i)) : Row w g E n F := by
  obtain ⟨hlen, h⟩ := h
  rcases h with ⟨h1, _⟩ | ⟨g', cap', cur, hv, _, hb, hnc, _, hs, ht⟩
  · cases h1
  · injection hv with hv _ _
    injection hv with hv
    injection hv with hv _ _
    subst hv
    refine ⟨cur, hb, by rw [hs]; omega, fun i hi => ?_⟩
    have e : cur.toList[i]? = xs[i]? := by rw [← ht, List.getElem?_take, if_pos (by omega)]
    rw [hF i hi] at e
    simpa using e
theorem RowsT.tb {w wr : World} {v : Value} {N M : Nat} (h : RowsT w wr v (N + 1) M) : ∃ g c h, v = .slice (some ⟨g, 0, none⟩) (N + 1) c ∧ Tb wr w.heap.size g 42 3 (N + 1) M h (fun _ _ => 0) ∧ Below w.heap.size w wr := by
  obtain ⟨h, h1, h2, h3⟩ := h
  obtain ⟨g, c, rfl, hg, hl⟩ := h1.form (by omega)
  refine ⟨g, c, h, rfl, ⟨hg, Row.of_ownG h1 fun i hi => by simp [hi], fun i hi => ⟨(h2 i hi).1, fun e => (h2 i hi).2.1 (by rw [e]; rfl), (h2 i hi).2.2.1, (h2 i hi).2.2.2⟩⟩, h3⟩
theorem wpList_appRow {P : Program} {ops : Array Oper} {rest : List Oper} {o : Oper} {a : Act} {Q : Exit → Act → World → Prop} (hgd : o.guard = none) (s xo : Operand) (t : TypeId)
    (ho : o.op = .call { callee := .builtin .append, args := #[s, xo], argTypes := #[t, t] }) {w wr : World} {v : Value} {k M : Nat}
    (ht : P.underlying t = some (.slice 42)) (hE : (P.info? 42).map (fun i => (i.zero, i.size, i.bytes)) = some (some (.slice none 0 0), 1, 24))
    (hs : a.eval s = v) (h : RowsT w wr v k M) (c : Nat) (hx : a.eval xo = .slice (some ⟨wr.heap.size + 1, 0, none⟩) 1 c) (hn : k + 1 ≤ 4294967296)
    (hK : ∀ v' w', RowsT w w' v' (k + 1) M → wpList P ops Q rest (a.put o.dst v') w') :
    wpList P ops Q (o :: rest) a ((wr.alloc (.cells (madeCells #[.int .i64 0] M) 3)).alloc (.cells #[.slice (some ⟨wr.heap.size, 0, none⟩) M M] 42)) := by
  obtain ⟨i, hi, hz0, hz1, hz2⟩ := info_parts hE
  obtain ⟨h, h1, h2, h3⟩ := h
  refine wpList_append_own_at _ hgd s xo t ho w.heap.size 42 i _ 1 24 ht hi hz0 hz1 hz2 rfl (by omega) v k _ hs ((h1.alloc _).alloc _) ⟨wr.heap.size + 1, 0, none⟩ 1 c [.slice (some ⟨wr.heap.size, 0, none⟩) M M] hx rfl ?_ ?_ (by unfold maxLen; omega) (by omega) (by have := h3.size; simp; omega) ?_
  · intro j u hu
    match j, hu with
    | 0, hu =>
      simp at hu; subst hu
      simp [Addr.add]
  · intro u hu
    simp only [List.mem_cons, List.not_mem_nil, or_false] at hu
    subst hu
    rfl
  · intro v' w' hown hg _ hat
    have hsz := h3.size
    have hlt : ∀ g, v.ownBlock = some g → g < wr.heap.size := fun g hg => (h1.lt g hg).2
    have hne : ∀ i, i < k → h i < wr.heap.size := fun i hi => (h2 i hi).2.2.1.lt
    have keep : ∀ g, g < wr.heap.size + 2 → v.ownBlock ≠ some g → w'.heap[g]? = ((wr.alloc (.cells (madeCells #[.int .i64 0] M) 3)).alloc (.cells #[.slice (some ⟨wr.heap.size, 0, none⟩) M M] 42)).heap[g]? := fun g h1 h2 => hg.block g (by simp; omega) (fun e => h2 e.symm)
    have hv' : ∀ g, g < wr.heap.size + 2 → v.ownBlock ≠ some g → v'.ownBlock ≠ some g := fun g h1 h2 e => by
      rcases hat with h | h
      · exact h2 (h ▸ e)
      · rw [h] at e; injection e with e; simp at e; omega
    refine hK v' w' ⟨fun i => if i = k then wr.heap.size else h i, ?_, fun i hi => ?_, ((h3.alloc h3.size _).alloc (by simp; omega) _).grown hg (by simp; omega) fun g hg => (h1.lt g hg).1⟩
    · rw [List.range_succ, List.map_append]
      have e : (List.range k).map (fun i => Value.slice (some ⟨if i = k then wr.heap.size else h i, 0, none⟩) M M) = (List.range k).map fun i => .slice (some ⟨h i, 0, none⟩) M M := by
        apply List.map_congr_left
        intro i hi
        have := List.mem_range.1 hi
        rw [if_neg (by omega)]
      rw [e]
      simpa using hown
    · by_cases e : i = k
      · subst e
        have hb : v.ownBlock ≠ some wr.heap.size := fun e => by have := hlt _ e; omega
        simp only [if_true]
        refine ⟨hsz, hv' _ (by omega) hb, ?_, fun j hj ej => ?_⟩
        · exact ((row_made wr M (.int .i64 0) 3).alloc _).of_block (keep _ (by omega) hb)
        · by_cases e2 : j = i
          · exact e2
          · rw [if_neg e2] at ej; have := hne j (by omega); omega
      · have hik : i < k := by omega
        obtain ⟨a1, a2, a3, a4⟩ := h2 i hik
        have := hne i hik
        simp only [if_neg e]
        refine ⟨a1, hv' _ (by omega) a2, ((a3.alloc _).alloc _).of_block (keep _ (by omega) a2), fun j hj ej => ?_⟩
        by_cases e2 : j = k
        · rw [if_pos e2] at ej; omega
        · rw [if_neg e2] at ej; exact a4 j (by omega) ej

set_option maxRecDepth 100000 in
set_option maxHeartbeats 4000000 in
theorem l16Most_any (A B : Option Addr) (ca cb : Nat) (a b : List (Int × Int)) (t : Int) (w : World) (hr : Rd w w.heap.size A a) (hs : Rd w w.heap.size B b) (hn : a.length ≤ 1000) (hm : b.length ≤ 1000)
    (ha : ∀ k, k < a.length → -1000000 ≤ fB a k ∧ fB a k ≤ 1000000) (hb : ∀ k, k < b.length → -1000000 ≤ fB b k ∧ fB b k ≤ 1000000) :
    Calls Try.prog 69 #[.slice A a.length ca, .slice B b.length cb, .int .i64 t] w (RetT w (a.length + 1) (b.length + 1) fun r c => (mAt t (szL a) (szL b) r c : Nat)) := by
  have HA := Lib.hid ha
  have HB := Lib.hid hb
  clear ha hb
  have hmk2 := run_make1 (P := Try.prog) Try.underlying42 infoInt (by omega) (b.length + 1) (by omega)
  rw [show ((b.length + 1 : Nat) : Int) = (b.length : Int) + 1 by omega] at hmk2
  go_enter Try.func69, Try.ntmps69
  go_wp2_with fail
  go_loopw [8, 7] (fun i v wr => ∃ k : Nat, k ≤ a.length + 1 ∧ i = .int .i64 k ∧ RowsT w wr v k (b.length + 1)) (fun i _ _ => a.length + 1 - (intOf i).toNat)
  case atStart => exact ⟨0, Nat.zero_le _, rfl, RowsT.start w (b.length + 1)⟩
  case round =>
    obtain ⟨k, hk, rfl, hh⟩ := hrel
    by_cases hlt : k < a.length + 1
    · have hlt2 : (k : Int) ≤ (a.length : Int) := by omega
      have hlt3 : k ≤ a.length := by omega
      have HH := Lib.hid hh
      clear hh
      go_wp2_with (at_builtin; refine wpList_appRow rfl _ _ _ rfl Try.underlying83 infoRow rfl HH.out _ rfl (by omega) ?_; intro v1 w2 hh2)
      exact ⟨⟨k + 1, hlt, by go_num, hh2⟩, by simp [intOf]; omega⟩
    · obtain rfl : k = a.length + 1 := by omega
      rw [show ((a.length + 1 : Nat) : Int) = (a.length : Int) + 1 by omega]
      have hle : decide ((a.length : Int) + 1 ≤ (a.length : Int)) = false := decide_eq_false (by omega)
      obtain ⟨g, c, h, rfl, tb, hb1⟩ := hh.tb
      clear hmk2
      have tb1 := tb.congr (f' := mTab t (szL a) (szL b) (szL a).length ((szL b).length + 1)) fun _ _ _ hk => (mTab_first (by rw [length_szL]; exact hk)).symm
      rw [length_szL, length_szL] at tb1
      clear tb hh
      go_wp2_with fail
      go_loopw [9] (fun i wr => ∃ k : Nat, k ≤ a.length ∧ i = .int .i64 ((k : Int) - 1) ∧ Tb wr w.heap.size g 42 3 (a.length + 1) (b.length + 1) h (mTab t (szL a) (szL b) k (b.length + 1)) ∧ Below w.heap.size w wr) (fun i _ => (intOf i + 1).toNat)
      case atStart => exact ⟨a.length, Nat.le_refl _, rfl, tb1, hb1⟩
      case round =>
        obtain ⟨k, hk, rfl, ht, hbl⟩ := hrel
        clear tb1 hb1
        cases k with
        | zero =>
          go_wp2_with fail
          go_ret
          exact ⟨g, c, h, rfl, ht.congr fun _ _ _ _ => by rw [← length_szL b, mTab_last], hbl⟩
        | succ i =>
          rw [show ((i + 1 : Nat) : Int) - 1 = (i : Int) by omega]
          have hi0 : (0 : Int) ≤ (i : Int) := by omega
          have ht1 := ht.congr (f' := mTab t (szL a) (szL b) (i + 1) b.length) fun _ _ _ _ => by rw [← length_szL b, mTab_start]
          clear ht
          go_wp2_with fail
          go_loopw [10] (fun j wx => ∃ k : Nat, k ≤ b.length ∧ j = .int .i64 ((k : Int) - 1) ∧ Tb wx w.heap.size g 42 3 (a.length + 1) (b.length + 1) h (mTab t (szL a) (szL b) (i + 1) k) ∧ Below w.heap.size w wx) (fun j _ => (intOf j + 1).toNat)
          case atStart => exact ⟨b.length, Nat.le_refl _, rfl, ht1, hbl⟩
          case round =>
            obtain ⟨k, hkk, rfl, ht, hbl⟩ := hrel
            clear ht1
            cases k with
            | zero =>
              go_wp2_with fail
              exact ⟨⟨i, by omega, by go_num, ht.congr fun _ _ _ hc => by rw [← length_szL b] at hc ⊢; exact mTab_next hc, hbl⟩, by simp [intOf]⟩
            | succ k =>
              rw [show ((k + 1 : Nat) : Int) - 1 = (k : Int) by omega]
              have hk0 : (0 : Int) ≤ (k : Int) := by omega
              have q1 := ht.cellS (i := i) (by omega)
              have q2 := ht.cellS (i := i + 1) (by omega)
              have q3 := ht.cellI (i := i + 1) (k := k) (by omega) (by omega)
              have q4 := ht.cellI (i := i) (k := k + 1) (by omega) (by omega)
              have q5 := ht.frozen (i := i) (by omega) k
              have q6 := ht.cellI (i := i) (k := k) (by omega) (by omega)
              rw [mTab_row] at q3
              rw [mTab_here (Nat.le_refl _)] at q4
              have s1 : IntKind.i64.wrap ((i : Int) + 1) = (i : Int) + 1 := IntWalk.i64_in _ (by omega)
              have s2 : IntKind.i64.wrap ((k : Int) + 1) = (k : Int) + 1 := IntWalk.i64_in _ (by omega)
              have s3 : (0 : Int) ≤ (i : Int) + 1 := by omega
              have s4 : (0 : Int) ≤ (k : Int) + 1 := by omega
              have s5 : ((i : Int) + 1).toNat = i + 1 := by omega
              have s6 : ((k : Int) + 1).toNat = k + 1 := by omega
              have l1 : (i : Int) < (a.length : Int) + 1 := by omega
              have l2 : (i : Int) + 1 < (a.length : Int) + 1 := by omega
              have l3 : (k : Int) < (b.length : Int) + 1 := by omega
              have l4 : (k : Int) + 1 < (b.length : Int) + 1 := by omega
              have l5 : (i : Int) < (a.length : Int) := by omega
              have l6 : (k : Int) < (b.length : Int) := by omega
              obtain ⟨z1, z2⟩ := HA.out i (by omega)
              obtain ⟨z3, z4⟩ := HB.out k (by omega)
              have z5 := mAt_le t (szL a) (szL b) (i + 1) (k + 1)
              rw [length_szL] at z5
              by_cases hmx : (mAt t (szL a) (szL b) i (k + 1) : Int) ≤ (mAt t (szL a) (szL b) (i + 1) k : Int)
              · go_wp2_with fail
                refine wp_region_tailQ 22 (by kernel_rfl) (by kernel_rfl) ?_
                simp only [List.take_succ_cons, List.take_zero, List.drop_succ_cons, List.drop_zero]
                repeat (go_big_quiet_step (fail))
                refine wpQuiet_nil ?_
                go_wp2_with fail
                have tb2 := (ht.drewN 1).set (i := i) (by omega) k (mAt t (szL a) (szL b) (i + 1) k : Int)
                have bl2 : Below w.heap.size w ((wr.drewN 1).setCell ⟨h i, k, none⟩ (.int .i64 (mAt t (szL a) (szL b) (i + 1) k : Int))) := (below_drewN hbl 1).setCell (p := ⟨h i, k, none⟩) (ht.blk (by omega)) _
                generalize (wr.drewN 1).setCell ⟨h i, k, none⟩ (.int .i64 (mAt t (szL a) (szL b) (i + 1) k : Int)) = wy at tb2 bl2 ⊢
                clear q1 q2 q3 q4 q5 q6 ht hbl
                obtain ⟨bA, oA, hA, hAB, hcA⟩ := (hr.below bl2) (by omega)
                obtain ⟨bB, oB, hB, hBB, hcB⟩ := (hs.below bl2) (by omega)
                subst hA hB
                obtain ⟨e1, e2⟩ := hcA i (by omega)
                obtain ⟨e3, e4⟩ := hcB k (by omega)
                have g1 : bA < wy.heap.size := by have := bl2.size; omega
                have g2 : bB < wy.heap.size := by have := bl2.size; omega
                clear hcA hcB
                cases hlk : lk t (fB a i) (fB b k) with
                | true =>
                  have hl : lk t (gI (szL a) i) (gI (szL b) k) = true := by rw [gI_szL, gI_szL]; exact hlk
                  have hy := mAt_yes (t := t) (xs := szL a) (ys := szL b) (i := i) (k := k) (by rw [length_szL]; omega) (by rw [length_szL]; omega) hl
                  have HY := Lib.hid hy
                  clear hy hl
                  refine wp_region_bw (by kernel_rfl) (by kernel_rfl) ?_
                  repeat (go_big_quiet_step ((go_at_call 63; exact bw_ret (l16Like_is hlk _ (by omega) (by omega) (by omega) (by omega)))))
                  refine wpQuiet_nil ?_
                  intro wx hx
                  have tb3 := tb2.below hx
                  have bl3 := bl2.trans (hx.mono bl2.size)
                  clear hx tb2 bl2 e1 e2 e3 e4 g1 g2
                  have q1 := tb3.cellS (i := i) (by omega)
                  have q2 := tb3.cellS (i := i + 1) (by omega)
                  have q3 := tb3.cellI (i := i + 1) (k := k + 1) (by omega) (by omega)
                  have q4 := tb3.cellI (i := i) (k := k) (by omega) (by omega)
                  have q5 := tb3.frozen (i := i) (by omega) k
                  rw [if_neg (by omega), mTab_row] at q3
                  rw [if_pos ⟨rfl, rfl⟩] at q4
                  have s7 : IntKind.i64.wrap ((mAt t (szL a) (szL b) (i + 1) (k + 1) : Int) + 1) = (mAt t (szL a) (szL b) (i + 1) (k + 1) : Int) + 1 := IntWalk.i64_in _ (by omega)
                  by_cases hm2 : (mAt t (szL a) (szL b) (i + 1) (k + 1) : Int) + 1 ≤ (mAt t (szL a) (szL b) (i + 1) k : Int)
                  · go_wp2_with fail
                    refine wp_region_tailQ 23 (by kernel_rfl) (by kernel_rfl) ?_
                    simp only [List.take_succ_cons, List.take_zero, List.drop_succ_cons, List.drop_zero]
                    repeat (go_big_quiet_step (fail))
                    refine wpQuiet_nil ?_
                    go_wp2_with fail
                    refine ⟨⟨k, by omega, by go_num, ((tb3.drewN 1).set (i := i) (by omega) k (mAt t (szL a) (szL b) (i + 1) k : Int)).congr fun _ _ _ _ => ?_, (below_drewN bl3 1).setCell (p := ⟨h i, k, none⟩) (tb3.blk (by omega)) _⟩, by simp [intOf]⟩
                    rw [set_twice]
                    exact mTab_set (by rw [HY.out]; omega)
                  · have hm3 : decide ((mAt t (szL a) (szL b) (i + 1) (k + 1) : Int) + 1 ≤ (mAt t (szL a) (szL b) (i + 1) k : Int)) = false := by simpa using hm2
                    go_wp2_with fail
                    refine wp_region_tailQ 23 (by kernel_rfl) (by kernel_rfl) ?_
                    simp only [List.take_succ_cons, List.take_zero, List.drop_succ_cons, List.drop_zero]
                    repeat (go_big_quiet_step (fail))
                    refine wpQuiet_nil ?_
                    go_wp2_with fail
                    refine ⟨⟨k, by omega, by go_num, ((tb3.drewN 1).set (i := i) (by omega) k ((mAt t (szL a) (szL b) (i + 1) (k + 1) : Int) + 1)).congr fun _ _ _ _ => ?_, (below_drewN bl3 1).setCell (p := ⟨h i, k, none⟩) (tb3.blk (by omega)) _⟩, by simp [intOf]⟩
                    rw [set_twice]
                    exact mTab_set (by rw [HY.out]; omega)
                | false =>
                  have hl : lk t (gI (szL a) i) (gI (szL b) k) = false := by rw [gI_szL, gI_szL]; exact hlk
                  have hy := mAt_no (t := t) (xs := szL a) (ys := szL b) (i := i) (k := k) (by rw [length_szL]; omega) (by rw [length_szL]; omega) hl
                  have HY := Lib.hid hy
                  clear hy hl
                  refine wp_region_bw (by kernel_rfl) (by kernel_rfl) ?_
                  repeat (go_big_quiet_step ((go_at_call 63; exact bw_ret (l16Like_is hlk _ (by omega) (by omega) (by omega) (by omega)))))
                  refine wpQuiet_nil ?_
                  intro wx hx
                  have tb3 := tb2.below hx
                  have bl3 := bl2.trans (hx.mono bl2.size)
                  clear hx tb2 bl2 e1 e2 e3 e4 g1 g2
                  go_wp2_with fail
                  exact ⟨⟨k, by omega, by go_num, tb3.congr fun _ _ _ _ => mTab_set (by rw [HY.out]; omega), bl3⟩, by simp [intOf]⟩
              · have hmx2 : decide ((mAt t (szL a) (szL b) i (k + 1) : Int) ≤ (mAt t (szL a) (szL b) (i + 1) k : Int)) = false := by simpa using hmx
                go_wp2_with fail
                refine wp_region_tailQ 22 (by kernel_rfl) (by kernel_rfl) ?_
                simp only [List.take_succ_cons, List.take_zero, List.drop_succ_cons, List.drop_zero]
                repeat (go_big_quiet_step (fail))
                refine wpQuiet_nil ?_
                go_wp2_with fail
                have tb2 := (ht.drewN 1).set (i := i) (by omega) k (mAt t (szL a) (szL b) i (k + 1) : Int)
                have bl2 : Below w.heap.size w ((wr.drewN 1).setCell ⟨h i, k, none⟩ (.int .i64 (mAt t (szL a) (szL b) i (k + 1) : Int))) := (below_drewN hbl 1).setCell (p := ⟨h i, k, none⟩) (ht.blk (by omega)) _
                generalize (wr.drewN 1).setCell ⟨h i, k, none⟩ (.int .i64 (mAt t (szL a) (szL b) i (k + 1) : Int)) = wy at tb2 bl2 ⊢
                clear q1 q2 q3 q4 q5 q6 ht hbl
                obtain ⟨bA, oA, hA, hAB, hcA⟩ := (hr.below bl2) (by omega)
                obtain ⟨bB, oB, hB, hBB, hcB⟩ := (hs.below bl2) (by omega)
                subst hA hB
                obtain ⟨e1, e2⟩ := hcA i (by omega)
                obtain ⟨e3, e4⟩ := hcB k (by omega)
                have g1 : bA < wy.heap.size := by have := bl2.size; omega
                have g2 : bB < wy.heap.size := by have := bl2.size; omega
                clear hcA hcB
                cases hlk : lk t (fB a i) (fB b k) with
                | true =>
                  have hl : lk t (gI (szL a) i) (gI (szL b) k) = true := by rw [gI_szL, gI_szL]; exact hlk
                  have hy := mAt_yes (t := t) (xs := szL a) (ys := szL b) (i := i) (k := k) (by rw [length_szL]; omega) (by rw [length_szL]; omega) hl
                  have HY := Lib.hid hy
                  clear hy hl
                  refine wp_region_bw (by kernel_rfl) (by kernel_rfl) ?_
                  repeat (go_big_quiet_step ((go_at_call 63; exact bw_ret (l16Like_is hlk _ (by omega) (by omega) (by omega) (by omega)))))
                  refine wpQuiet_nil ?_
                  intro wx hx
                  have tb3 := tb2.below hx
                  have bl3 := bl2.trans (hx.mono bl2.size)
                  clear hx tb2 bl2 e1 e2 e3 e4 g1 g2
                  have q1 := tb3.cellS (i := i) (by omega)
                  have q2 := tb3.cellS (i := i + 1) (by omega)
                  have q3 := tb3.cellI (i := i + 1) (k := k + 1) (by omega) (by omega)
                  have q4 := tb3.cellI (i := i) (k := k) (by omega) (by omega)
                  have q5 := tb3.frozen (i := i) (by omega) k
                  rw [if_neg (by omega), mTab_row] at q3
                  rw [if_pos ⟨rfl, rfl⟩] at q4
                  have s7 : IntKind.i64.wrap ((mAt t (szL a) (szL b) (i + 1) (k + 1) : Int) + 1) = (mAt t (szL a) (szL b) (i + 1) (k + 1) : Int) + 1 := IntWalk.i64_in _ (by omega)
                  by_cases hm2 : (mAt t (szL a) (szL b) (i + 1) (k + 1) : Int) + 1 ≤ (mAt t (szL a) (szL b) i (k + 1) : Int)
                  · go_wp2_with fail
                    refine wp_region_tailQ 23 (by kernel_rfl) (by kernel_rfl) ?_
                    simp only [List.take_succ_cons, List.take_zero, List.drop_succ_cons, List.drop_zero]
                    repeat (go_big_quiet_step (fail))
                    refine wpQuiet_nil ?_
                    go_wp2_with fail
                    refine ⟨⟨k, by omega, by go_num, ((tb3.drewN 1).set (i := i) (by omega) k (mAt t (szL a) (szL b) i (k + 1) : Int)).congr fun _ _ _ _ => ?_, (below_drewN bl3 1).setCell (p := ⟨h i, k, none⟩) (tb3.blk (by omega)) _⟩, by simp [intOf]⟩
                    rw [set_twice]
                    exact mTab_set (by rw [HY.out]; omega)
                  · have hm3 : decide ((mAt t (szL a) (szL b) (i + 1) (k + 1) : Int) + 1 ≤ (mAt t (szL a) (szL b) i (k + 1) : Int)) = false := by simpa using hm2
                    go_wp2_with fail
                    refine wp_region_tailQ 23 (by kernel_rfl) (by kernel_rfl) ?_
                    simp only [List.take_succ_cons, List.take_zero, List.drop_succ_cons, List.drop_zero]
                    repeat (go_big_quiet_step (fail))
                    refine wpQuiet_nil ?_
                    go_wp2_with fail
                    refine ⟨⟨k, by omega, by go_num, ((tb3.drewN 1).set (i := i) (by omega) k ((mAt t (szL a) (szL b) (i + 1) (k + 1) : Int) + 1)).congr fun _ _ _ _ => ?_, (below_drewN bl3 1).setCell (p := ⟨h i, k, none⟩) (tb3.blk (by omega)) _⟩, by simp [intOf]⟩
                    rw [set_twice]
                    exact mTab_set (by rw [HY.out]; omega)
                | false =>
                  have hl : lk t (gI (szL a) i) (gI (szL b) k) = false := by rw [gI_szL, gI_szL]; exact hlk
                  have hy := mAt_no (t := t) (xs := szL a) (ys := szL b) (i := i) (k := k) (by rw [length_szL]; omega) (by rw [length_szL]; omega) hl
                  have HY := Lib.hid hy
                  clear hy hl
                  refine wp_region_bw (by kernel_rfl) (by kernel_rfl) ?_
                  repeat (go_big_quiet_step ((go_at_call 63; exact bw_ret (l16Like_is hlk _ (by omega) (by omega) (by omega) (by omega)))))
                  refine wpQuiet_nil ?_
                  intro wx hx
                  have tb3 := tb2.below hx
                  have bl3 := bl2.trans (hx.mono bl2.size)
                  clear hx tb2 bl2 e1 e2 e3 e4 g1 g2
                  go_wp2_with fail
                  exact ⟨⟨k, by omega, by go_num, tb3.congr fun _ _ _ _ => mTab_set (by rw [HY.out]; omega), bl3⟩, by simp [intOf]⟩

end Go.Proofs.Ytihkdbgnoncgnaa
