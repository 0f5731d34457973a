/- Contracts of MatchBest, in the program and in the reference. No condition but that the lists have at most 1048576 elements. -/
import Derived.Test.YtihkdbgnoncgnaaMostS
import Derived.Test.YtihkdbgnoncgnaaMatchMore
import Derived.Test.YtihkdbgnoncgnaaMM
import Derived.Test.YtihkdbgnoncgnaaSmall
namespace Go.Proofs.Ytihkdbgnoncgnaa
open Go.RowKit

def bestV (a b : List (Int × Int)) (t : Int) : List Int := if mtb a b t then bestL t (szL a) (szL b) else []
theorem bestV_yes {a b : List (Int × Int)} {t : Int} (h : mtb a b t = true) : bestV a b t = bestL t (szL a) (szL b) := by unfold bestV; rw [if_pos h]
theorem bestV_no {a b : List (Int × Int)} {t : Int} (h : mtb a b t = false) : bestV a b t = [] := by unfold bestV; rw [h]; rfl
theorem bestV_len (a b : List (Int × Int)) (t : Int) : (bestV a b t).length ≤ 8 := by
  unfold bestV
  split
  · rename_i h; rw [length_bestL, length_szL]; exact ev_len (mtb_parts h).1
  · simp
/-- The search for the partner of i has come to place p. -/
def seekAt (t : Int) (xs ys : List Int) (i fr p : Nat) : Prop := fstP t xs ys i fr = fpI t xs ys i fr (ys.length - p) p
section
variable {t : Int} {xs ys : List Int} {i fr p : Nat}
theorem seekAt_start : seekAt t xs ys i fr fr := rfl
theorem seekAt_hit (h : seekAt t xs ys i fr p) (hp : p < ys.length) (h1 : lk t (gI xs i) (gI ys p) = true) (h2 : 1 + mAt t xs ys (i + 1) (p + 1) = mAt t xs ys i fr) : fstP t xs ys i fr = p := by
  unfold seekAt at h
  rw [h, show ys.length - p = (ys.length - p - 1) + 1 by omega, fpI, if_pos ⟨h1, h2⟩]
theorem seekAt_miss (h : seekAt t xs ys i fr p) (hp : p < ys.length) (hn : ¬ (lk t (gI xs i) (gI ys p) = true ∧ 1 + mAt t xs ys (i + 1) (p + 1) = mAt t xs ys i fr)) : seekAt t xs ys i fr (p + 1) := by
  unfold seekAt at h ⊢
  rw [h, show ys.length - p = (ys.length - (p + 1)) + 1 by omega, fpI, if_neg hn]
theorem seekAt_end (h : seekAt t xs ys i fr ys.length) : fstP t xs ys i fr = -1 := by
  unfold seekAt at h
  rw [h, Nat.sub_self, fpI]
end
theorem bestL_take (t : Int) (xs ys : List Int) (k : Nat) (hk : k < xs.length) : (bestL t xs ys).take (k + 1) = (bestL t xs ys).take k ++ [fstP t xs ys k (frI t xs ys k)] := by
  have h : k < (bestL t xs ys).length := by rw [length_bestL]; exact hk
  rw [List.take_succ_eq_append_getElem h, ← gI_lt h, gI_bestL hk]; rfl
theorem frI_hit {t : Int} {xs ys : List Int} {k p : Nat} (h : fstP t xs ys k (frI t xs ys k) = p) : frI t xs ys (k + 1) = p + 1 := by rw [frI, h, nxtF, if_pos (by omega), Int.toNat_natCast]
theorem frI_miss {t : Int} {xs ys : List Int} {k : Nat} (h : fstP t xs ys k (frI t xs ys k) = -1) : frI t xs ys (k + 1) = frI t xs ys k := by rw [frI, h, nxtF, if_neg (by omega)]

/-- 'append(out, x)' of one integer: and where the new slice lies. -/
theorem wpList_app1_at {P : Program} {ops : Array Oper} {rest : List Oper} {o : Oper} {a : Act} {Q : Exit → Act → World → Prop} (hgd : o.guard = none) (s xo : Operand) (t : TypeId)
    (ho : o.op = .call { callee := .builtin .append, args := #[s, xo], argTypes := #[t, t] }) {w wr : World} {E : TypeId} {v : Value} {l : List Int}
    (ht : P.underlying t = some (.slice E)) (hE : (P.info? E).map (fun i => (i.zero, i.size, i.bytes)) = some (some (.int .i64 0), 1, 8))
    (hs : a.eval s = v) (h : Acc1 w wr E .i64 v l) (g c : Nat) (x : Int) (hg0 : wr.heap.size = g) (hx : a.eval xo = .slice (some ⟨g, 0, none⟩) 1 c) (hn : l.length + 1 ≤ 4294967296)
    (hK : ∀ v' w', Acc1 w w' E .i64 v' (l ++ [x]) → (wr.alloc (.cells #[.int .i64 x] E)).grownBy w' v.ownBlock → (v'.ownBlock = v.ownBlock ∨ v'.ownBlock = some (wr.heap.size + 1)) → wpList P ops Q rest (a.put o.dst v') w') : wpList P ops Q (o :: rest) a (wr.alloc (.cells #[.int .i64 x] E)) :=
  wpList_app1_base hgd s xo t ho ht hE hs h.1 h.2.size g c x hg0 hx hn fun v' w' h1 h2 h3 => hK v' w' ⟨h1, (h.2.alloc h.2.size _).grown h2 (h.2.alloc h.2.size _).size fun k hk => (h.1.lt k hk).1⟩ h2 h3
def KeepT (w1 : World) (g : Nat) (h : Nat → Nat) (N : Nat) (v : Value) : Prop := w1.heap.size ≤ g ∧ (∀ i, i < N → w1.heap.size ≤ h i) ∧ ∀ r, v.ownBlock = some r → r < w1.heap.size
theorem keepT {w wr w' : World} {D g N M : Nat} {E1 E2 E : TypeId} {h : Nat → Nat} {f : Nat → Nat → Int} {v v' : Value} {l : List Int} {X : Obj} (t : Tb wr D g E1 E2 N M h f) (_ha : Acc1 w wr E .i64 v l) (n1 : ∀ i, i < N → v.ownBlock ≠ some (h i)) (n2 : v.ownBlock ≠ some g)
    (hg : (wr.alloc X).grownBy w' v.ownBlock) (hat : v'.ownBlock = v.ownBlock ∨ v'.ownBlock = some (wr.heap.size + 1)) : Tb w' D g E1 E2 N M h f ∧ (∀ i, i < N → v'.ownBlock ≠ some (h i)) ∧ v'.ownBlock ≠ some g := by
  have keep : ∀ b, b < wr.heap.size → v.ownBlock ≠ some b → w'.heap[b]? = wr.heap[b]? := fun b hb hn => (hg.block b (by simp; omega) (fun e => hn e.symm)).trans (Below.heap_alloc wr X b hb)
  have lt1 := t.2.1.lt
  have lt2 := fun i hi => (t.2.2 i hi).2.2.1.lt
  refine ⟨⟨t.1, t.2.1.of_block (keep _ lt1 n2), fun i hi => ⟨(t.2.2 i hi).1, (t.2.2 i hi).2.1, (t.2.2 i hi).2.2.1.of_block (keep _ (lt2 i hi) (n1 i hi)), (t.2.2 i hi).2.2.2⟩⟩, fun i hi e => ?_, fun e => ?_⟩
  · rcases hat with h1 | h1
    · exact n1 i hi (h1 ▸ e)
    · rw [h1] at e; injection e with e; have := lt2 i hi; omega
  · rcases hat with h1 | h1
    · exact n2 (h1 ▸ e)
    · rw [h1] at e; injection e with e; omega


set_option maxRecDepth 100000 in
set_option maxHeartbeats 4000000 in
theorem partner_any (A B : Option Addr) (ca cb c D g i fr : Nat) (h : Nat → Nat) (a b : List (Int × Int)) (t : Int) (w : World) (hr : Rd w w.heap.size A a) (hs : Rd w w.heap.size B b) (va : ev a = true) (vb : ev b = true) (hi : i < a.length) (hfr : fr ≤ b.length)
    (tb : Tb w D g 42 3 (a.length + 1) (b.length + 1) h fun r c => (mAt t (szL a) (szL b) r c : Nat)) :
    Calls Try.prog 70 #[.slice A a.length ca, .slice B b.length cb, .int .i64 t, .slice (some ⟨g, 0, none⟩) (a.length + 1) c, .int .i64 i, .int .i64 fr] w fun e w' => e = .returned (.int .i64 (fstP t (szL a) (szL b) i fr)) ∧ Below w.heap.size w w' := by
  have la := ev_len va
  have lb := ev_len vb
  have VA := Lib.hid va
  have VB := Lib.hid vb
  clear va vb
  go_enter Try.func70, Try.ntmps70
  go_wp2_with fail
  go_loopw [13] (fun j wx => ∃ p : Nat, fr ≤ p ∧ p ≤ b.length ∧ j = .int .i64 p ∧ seekAt t (szL a) (szL b) i fr p ∧ Below w.heap.size w wx) (fun j _ => b.length - (intOf j).toNat)
  case atStart => exact ⟨fr, Nat.le_refl _, hfr, rfl, seekAt_start, Below.refl _ _⟩
  case round =>
    obtain ⟨p, hfp, hpb, rfl, hsk, hbl⟩ := hrel
    have HSK := Lib.hid hsk
    clear hsk
    by_cases hp : p < b.length
    · have tx := tb.below hbl
      obtain ⟨bA, oA, hA, hAB, hcA⟩ := (hr.below hbl) (by omega)
      obtain ⟨bB, oB, hB, hBB, hcB⟩ := (hs.below hbl) (by omega)
      subst hA hB
      obtain ⟨e1, e2⟩ := hcA i hi
      obtain ⟨e3, e4⟩ := hcB p hp
      have sz := hbl.size
      have g1 : bA < wr.heap.size := by omega
      have g2 : bB < wr.heap.size := by omega
      have q1 := tx.cellS (i := i + 1) (by omega)
      have q2 := tx.cellI (i := i + 1) (k := p + 1) (by omega) (by omega)
      have q3 := tx.cellS (i := i) (by omega)
      have q4 := tx.cellI (i := i) (k := fr) (by omega) (by omega)
      have g3 : g < wr.heap.size := tx.2.1.lt
      have g4 : h (i + 1) < wr.heap.size := (tx.2.2 (i + 1) (by omega)).2.2.1.lt
      have g5 : h i < wr.heap.size := (tx.2.2 i (by omega)).2.2.1.lt
      obtain ⟨z1, z2⟩ := ev_small VA.out i hi
      obtain ⟨z3, z4⟩ := ev_small VB.out p hp
      have z5 := mAt_le t (szL a) (szL b) (i + 1) (p + 1)
      have z6 := mAt_le t (szL a) (szL b) i fr
      rw [length_szL] at z5 z6
      have l1 : (i : Int) < (a.length : Int) := by omega
      have l2 : (p : Int) < (b.length : Int) := by omega
      have l3 : (0 : Int) ≤ (i : Int) := by omega
      have l4 : (0 : Int) ≤ (p : Int) := by omega
      have s1 : IntKind.i64.wrap ((i : Int) + 1) = (i : Int) + 1 := IntWalk.i64_in _ (by omega)
      have s2 : IntKind.i64.wrap ((p : Int) + 1) = (p : Int) + 1 := IntWalk.i64_in _ (by omega)
      obtain ⟨s31, s32, s33⟩ : (0 : Int) ≤ (i : Int) + 1 ∧ (i : Int) + 1 < (a.length : Int) + 1 ∧ (i : Int) < (a.length : Int) + 1 := by omega
      obtain ⟨s41, s42, s43, s44⟩ : (0 : Int) ≤ (p : Int) + 1 ∧ (p : Int) + 1 < (b.length : Int) + 1 ∧ (fr : Int) < (b.length : Int) + 1 ∧ (0 : Int) ≤ (fr : Int) := by omega
      have s5 : ((i : Int) + 1).toNat = i + 1 := by omega
      have s6 : ((p : Int) + 1).toNat = p + 1 := by omega
      have s7 : IntKind.i64.wrap ((mAt t (szL a) (szL b) (i + 1) (p + 1) : Int) + 1) = (mAt t (szL a) (szL b) (i + 1) (p + 1) : Int) + 1 := IntWalk.i64_in _ (by omega)
      clear hcA hcB tx
      go_wp2_with fail
      cases hlk : lk t (fB a i) (fB b p) with
      | true =>
        have hl : lk t (gI (szL a) i) (gI (szL b) p) = true := by rw [gI_szL, gI_szL]; exact hlk
        by_cases hq : 1 + mAt t (szL a) (szL b) (i + 1) (p + 1) = mAt t (szL a) (szL b) i fr
        · have hd : ((mAt t (szL a) (szL b) (i + 1) (p + 1) : Int) + 1 == (mAt t (szL a) (szL b) i fr : Int)) = true := by simp; omega
          have hit := seekAt_hit HSK.out (by rw [length_szL]; exact hp) hl hq
          have HIT := Lib.hid hit
          clear hl hq hit
          refine wp_region_bw (by kernel_rfl) (by kernel_rfl) ?_
          repeat (go_big_quiet_step ((go_at_call 63; exact bw_ret (l16Like_is hlk _ (by omega) (by omega) (by omega) (by omega)))))
          refine wpQuiet_nil ?_
          intro wy hy
          clear e1 e2 e3 e4 q1 q2 q3 q4 g1 g2 g3 g4 g5
          go_wp2
          go_ret
          exact ⟨ret_int (by rw [HIT.out]), hbl.trans (hy.mono hbl.size)⟩
        · have hd : ((mAt t (szL a) (szL b) (i + 1) (p + 1) : Int) + 1 == (mAt t (szL a) (szL b) i fr : Int)) = false := by simp; omega
          have hit := seekAt_miss HSK.out (by rw [length_szL]; exact hp) (fun h => hq h.2)
          have HIT := Lib.hid hit
          clear hl hq hit
          refine wp_region_bw (by kernel_rfl) (by kernel_rfl) ?_
          repeat (go_big_quiet_step ((go_at_call 63; exact bw_ret (l16Like_is hlk _ (by omega) (by omega) (by omega) (by omega)))))
          refine wpQuiet_nil ?_
          intro wy hy
          have BX := hbl.trans (hy.mono hbl.size)
          clear e1 e2 e3 e4 q1 q2 q3 q4 g1 g2 g3 g4 g5
          go_wp2
          exact ⟨⟨p + 1, by omega, by omega, by go_num, HIT.out, BX⟩, by simp [intOf]; omega⟩
      | false =>
        have hl : lk t (gI (szL a) i) (gI (szL b) p) = false := by rw [gI_szL, gI_szL]; exact hlk
        have hit := seekAt_miss HSK.out (by rw [length_szL]; exact hp) (fun h => by rw [hl] at h; cases h.1)
        have HIT := Lib.hid hit
        clear hl hit
        refine wp_region_bw (by kernel_rfl) (by kernel_rfl) ?_
        repeat (go_big_quiet_step ((go_at_call 63; exact bw_ret (l16Like_is hlk _ (by omega) (by omega) (by omega) (by omega)))))
        refine wpQuiet_nil ?_
        intro wy hy
        have BX := hbl.trans (hy.mono hbl.size)
        clear e1 e2 e3 e4 q1 q2 q3 q4 g1 g2 g3 g4 g5
        go_wp2
        exact ⟨⟨p + 1, by omega, by omega, by go_num, HIT.out, BX⟩, by simp [intOf]; omega⟩
    · obtain rfl : p = b.length := by omega
      have hit := seekAt_end (by rw [length_szL]; exact HSK.out)
      have HIT := Lib.hid hit
      clear hit
      go_wp2
      go_ret
      exact ⟨ret_int (by rw [HIT.out]), hbl⟩

set_option maxHeartbeats 4000000 in
theorem specMatchBest_any (A B : Option Addr) (ca cb : Nat) (a b : List (Int × Int)) (t : Int) (w : World) (hr : Rd w w.heap.size A a) (hs : Rd w w.heap.size B b) (hn : a.length ≤ 1048576) (hm : b.length ≤ 1048576) :
    Calls Try.prog 58 #[.slice A a.length ca, .slice B b.length cb, .int .i64 t] w (RetIB w 3 (bestV a b t) (mtb a b t)) := by
  have b0 : Below w.heap.size w (w.alloc (.cells #[] 3)) := (Below.refl _ _).alloc (Nat.le_refl _) _
  have acc0 : Acc1 w (w.alloc (.cells #[] 3)) 3 .i64 (.slice (some ⟨w.heap.size, 0, none⟩) 0 0) [] := ⟨World.ownsRow_made w #[] 0 (Nat.le_refl _) (by decide) rfl, b0⟩
  have hr0 := hr.to b0
  have hs0 := hs.to b0
  go_enter Try.func58, Try.ntmps58
  go_wp2_with fail
  refine (l16Ok_any A B ca cb a b t _ hr0 hs0 hn hm).mono ?_
  rintro e w1 ⟨rfl, h1⟩
  have acc1 := acc0.below h1
  cases hv : mtb a b t with
  | false =>
    go_wp2
    go_ret2
    rw [bestV_no hv, hv]
    exact ⟨_, 0, rfl, acc1.1, acc1.2⟩
  | true =>
    obtain ⟨va, vb, _, _⟩ := mtb_parts hv
    have la := ev_len va
    have lb := ev_len vb
    have HV := Lib.hid hv
    have VA := Lib.hid va
    have VB := Lib.hid vb
    clear hv
    go_wp2_with fail
    refine (l16Most_any A B ca cb a b t _ (hr0.to h1) (hs0.to h1) (by omega) (by omega) (ev_small va) (ev_small vb)).mono ?_
    rintro e w2 ⟨g, c, h, rfl, tb, h2⟩
    clear va vb
    have acc2 := acc1.below h2
    have hb0 := acc2.2
    have hfr := frI_le t (szL a) (szL b)
    have HF := Lib.hid hfr
    have hgg : ∀ r, (Value.slice (some ⟨w.heap.size, 0, none⟩) 0 0).ownBlock = some r → r < w1.heap.size := fun r e => (acc1.1.lt r e).2
    have hkeep : KeepT w1 g h (a.length + 1) (.slice (some ⟨w.heap.size, 0, none⟩) 0 0) := ⟨tb.1, fun i hi => tb.blk hi, hgg⟩
    clear h1 hfr hr0 hs0 acc0 acc1 b0 hgg
    go_wp2_with fail
    go_loopw [11, 10, 8] (fun i fr v wr => ∃ k : Nat, k ≤ a.length ∧ i = .int .i64 k ∧ fr = .int .i64 (frI t (szL a) (szL b) k : Nat) ∧ Acc1 w wr 3 .i64 v ((bestL t (szL a) (szL b)).take k) ∧ Tb wr w1.heap.size g 42 3 (a.length + 1) (b.length + 1) h (fun r c => (mAt t (szL a) (szL b) r c : Nat)) ∧ (∀ i, i < a.length + 1 → v.ownBlock ≠ some (h i)) ∧ v.ownBlock ≠ some g) (fun i _ _ _ => a.length - (intOf i).toNat)
    case atStart => exact ⟨0, Nat.zero_le _, rfl, rfl, acc2, tb, fun i hi e => by have := hkeep.2.2 _ e; have := hkeep.2.1 i hi; omega, fun e => by have := hkeep.2.2 _ e; have := hkeep.1; omega⟩
    case round =>
      obtain ⟨k, hk, rfl, rfl, hacc, ht, hn1, hn2⟩ := hrel
      by_cases hlt : k < a.length
      · have hfk := HF.out k
        rw [length_szL] at hfk
        generalize hfe : frI t (szL a) (szL b) k = fr at hfk ⊢
        have HFE := Lib.hid hfe
        have htk : ((bestL t (szL a) (szL b)).take k).length + 1 ≤ 4294967296 := by rw [List.length_take]; omega
        have l3 : (0 : Int) ≤ (k : Int) := by omega
        have l1 : (k : Int) < (a.length : Int) := by omega
        clear hfe
        go_wp2_with fail
        refine (partner_any A B ca cb c w1.heap.size g k fr h a b t _ ((hr.below hacc.2).more hacc.2.size) ((hs.below hacc.2).more hacc.2.size) VA.out VB.out hlt hfk ht).mono ?_
        rintro e w4 ⟨rfl, b4⟩
        have ht4 := ht.below b4
        have hacc4 := hacc.below b4
        clear ht hacc
        have h3 := bestL_take t (szL a) (szL b) k (by rw [length_szL]; exact hlt)
        have h5 := fstP_cases t (szL a) (szL b) k fr (by rw [length_szL]; exact hfk)
        have h4 : frI t (szL a) (szL b) (k + 1) = nxtF (fstP t (szL a) (szL b) k fr) fr := by rw [frI, HFE.out]
        rw [HFE.out] at h3
        rw [length_szL] at h5
        generalize fstP t (szL a) (szL b) k fr = P at h3 h4 h5 ⊢
        have H3 := Lib.hid h3
        have H4 := Lib.hid h4
        have hP : P = -1 ∨ ∃ p : Nat, P = p ∧ p < b.length := by
          rcases h5 with ⟨h, _⟩ | ⟨p, h, _, h', _⟩
          · exact .inl h
          · exact .inr ⟨p, h, h'⟩
        clear h3 h4 h5
        rcases hP with rfl | ⟨p, rfl, hpb⟩
        · go_wp2_with (at_builtin; refine wpList_app1_at rfl _ _ _ rfl Try.underlying42 infoInt rfl hacc4 _ _ _ rfl rfl htk ?_; intro v1 w9 hacc9 hg9 hat9)
          have hk9 := keepT ht4 hacc4 hn1 hn2 hg9 hat9
          exact ⟨⟨k + 1, hlt, by go_num, by rw [H4.out]; rfl, by rw [H3.out]; exact hacc9, hk9.1, hk9.2.1, hk9.2.2⟩, by simp [intOf]; omega⟩
        · go_wp2_with (at_builtin; refine wpList_app1_at rfl _ _ _ rfl Try.underlying42 infoInt rfl hacc4 _ _ _ rfl rfl htk ?_; intro v1 w9 hacc9 hg9 hat9)
          have hk9 := keepT ht4 hacc4 hn1 hn2 hg9 hat9
          exact ⟨⟨k + 1, hlt, by go_num, by rw [H4.out, nxtF, if_pos (by omega), Int.toNat_natCast]; go_num, by rw [H3.out]; exact hacc9, hk9.1, hk9.2.1, hk9.2.2⟩, by simp [intOf]; omega⟩
      · obtain rfl : k = a.length := by omega
        go_wp2
        go_ret2
        obtain ⟨A1, c1, rfl⟩ := hacc.shape
        have e : (bestL t (szL a) (szL b)).take a.length = bestV a b t := by rw [bestV_yes HV.out, List.take_of_length_le (by rw [length_bestL, length_szL]; exact Nat.le_refl _)]
        rw [e] at hacc
        refine ⟨A1, c1, ?_, hacc⟩
        rw [← e, HV.out]; rfl

end Go.Proofs.Ytihkdbgnoncgnaa
