/- Contracts of the program's joining of ties. No condition but that the lists have at most 1048576 elements. -/
import Derived.Test.YtihkdbgnoncgnaaSortTie
import Derived.Test.YtihkdbgnoncgnaaConcat
import Derived.Test.YtihkdbgnoncgnaaCompact
import Derived.Test.YtihkdbgnoncgnaaTv
namespace Go.Proofs.Ytihkdbgnoncgnaa
open Go.RowKit

/-- A row of the call's own, written in place or not. -/
def OwnR (base : Nat) (w : World) (A : Option Addr) (l : List (Int × Int)) : Prop := 0 < l.length → ∃ g, A = some ⟨g, 0, none⟩ ∧ base ≤ g ∧ Row w g 40 (l.length * 2) (cellAt l)
def RetR (w : World) (l : List (Int × Int)) (e : Ending) (w' : World) : Prop := ∃ A, e = .returned (.slice A l.length l.length) ∧ OwnR w.heap.size w' A l ∧ Below w.heap.size w w'
def RetRB (w : World) (l : List (Int × Int)) (ok : Bool) (e : Ending) (w' : World) : Prop := ∃ A, e = .returned (.tuple #[.slice A l.length l.length, .bool ok]) ∧ OwnR w.heap.size w' A l ∧ Below w.heap.size w w'
theorem OwnR.rd {base : Nat} {w : World} {A : Option Addr} {l : List (Int × Int)} (h : OwnR base w A l) : Rd w w.heap.size A l := fun hl => by
  obtain ⟨g, rfl, _, hr⟩ := h hl
  exact hr.rd hl
theorem OwnR.below {base : Nat} {w w' : World} {A : Option Addr} {l : List (Int × Int)} (h : OwnR base w A l) (hb : Below w.heap.size w w') : OwnR base w' A l := fun hl => by
  obtain ⟨g, rfl, h1, hr⟩ := h hl
  exact ⟨g, rfl, h1, hr.below hb hr.lt⟩
theorem own_max {w : World} {base n c : Nat} {E : TypeId} {A : Option Addr} {xs : List Value} (h : w.ownsRow base E 2 (.slice A n c) n xs) (hn : 0 < n) : ∃ g, A = some ⟨g, 0, none⟩ ∧ base ≤ g ∧ n ≤ c ∧ c ≤ maxLen := by
  rcases h.2 with ⟨_, h0⟩ | ⟨g, cap, cur, hv, hb, _, h1, h2, _⟩
  · omega
  · injection hv with h3 _ h4
    subst h3 h4
    exact ⟨g, rfl, hb, h1, h2⟩
set_option maxHeartbeats 400000 in
theorem clip_any (A : Option Addr) (n c : Nat) (w : World) (h : n ≤ c) : Calls Try.prog 53 #[.slice A n c] w fun e w' => e = .returned (.slice A n n) ∧ w = w' := by
  go_enter Try.func53, Try.ntmps53
  go_wp2
  go_ret
  exact ⟨rfl, rfl⟩
set_option maxHeartbeats 2000000 in
theorem allTies_any (A B : Option Addr) (c d : Nat) (a b : List (Int × Int)) (w : World) (hr : Rd w w.heap.size A a) (hs : Rd w w.heap.size B b) (hn : a.length ≤ 1048576) (hm : b.length ≤ 1048576) :
    Calls Try.prog 37 #[.slice A a.length c, .slice B b.length d] w (RetR w (allV a b)) := by
  have hB := Blk.new_ w 23 #[.slice A a.length c, .slice B b.length d]
  have b0 : Below w.heap.size w (w.alloc (.cells #[.slice A a.length c, .slice B b.length d] 23)) := (Below.refl _ _).alloc (Nat.le_refl _) _
  have hr0 := hr.to b0
  have hs0 := hs.to b0
  go_enter Try.func37, Try.ntmps37
  go_wp2_with fail
  refine (concat_any A B w.heap.size c d 2 a b _ (hB.cell 0) (hB.cell 1) hB.lt hr0 hs0 hn hm).mono ?_
  rintro e w1 ⟨A1, c1, rfl, o1, b1⟩
  have b2 := b0.trans (b1.mono b0.size)
  have hle := allV_len a b
  have hlen : (a ++ b).length = a.length + b.length := List.length_append
  have hz := b0.size
  clear hB b0 b1 hr0 hs0 hr hs
  have hsl := sortL_len (a ++ b)
  by_cases h0 : (a ++ b).length = 0
  · have ev : allV a b = [] := List.eq_nil_of_length_eq_zero (by omega)
    have EV := Lib.hid ev
    have hc0 := own_cap o1
    rw [h0] at hc0 ⊢
    clear ev hsl hlen h0 hle o1
    go_wp2_with fail
    refine (sortNone_any A1 c1 _ _).mono ?_
    rintro e w2 ⟨rfl, rfl⟩
    go_wp2_with fail
    refine (compactShort_any A1 c1 [] _ (by decide)).mono ?_
    rintro e w2 ⟨rfl, rfl⟩
    go_wp2_with fail
    refine (clip_any A1 0 c1 _ hc0).mono ?_
    rintro e w2 ⟨rfl, rfl⟩
    go_wp2
    go_ret
    rw [EV.out]
    exact ⟨A1, rfl, fun h => absurd h (by simp), b2⟩
  · obtain ⟨g, hA, hg, hc1, hc2⟩ := own_max o1 (by omega)
    subst hA
    have hrow := Row.of_own o1
    have hcm : c1 ≤ 9223372036854775807 := by unfold maxLen at hc2; omega
    generalize hl : a ++ b = l at *
    have HL := Lib.hid hl
    have HS := Lib.hid hsl
    have hsl1 : (sortL l).length ≤ l.length := by omega
    have hsl2 : l.length ≤ (sortL l).length := by omega
    have hle2 : (allV a b).length ≤ l.length := by omega
    have hlm : l.length ≤ 4194304 := by omega
    clear hl hsl o1 hc2 hlen hle
    go_wp2_with fail
    refine (sortTies_any g c1 l _ hrow (by omega)).mono ?_
    rintro e w2 ⟨rfl, hrow2, hg2⟩
    have b3 : Below w.heap.size w w2 := b2.grown hg2 b2.size fun k e => by injection e with e; omega
    clear hrow hg2 b2
    by_cases h1 : l.length < 2
    · have ev : allV a b = sortL l := by unfold allV; rw [HL.out, cpT_short (by omega)]
      have X := compactShort_any (some ⟨g, 0, none⟩) c1 (sortL l) w2 (by omega)
      rw [HS.out] at X
      have EV := Lib.hid ev
      have XH := Lib.hid X
      clear ev X
      go_wp2_with fail
      refine XH.out.mono ?_
      rintro e w3 ⟨rfl, rfl⟩
      go_wp2_with fail
      refine (clip_any (some ⟨g, 0, none⟩) l.length c1 _ hc1).mono ?_
      rintro e w3 ⟨rfl, rfl⟩
      go_wp2
      go_ret
      rw [EV.out]
      exact ⟨some ⟨g, 0, none⟩, by rw [HS.out]; rfl, fun _ => ⟨g, rfl, by omega, by rw [HS.out]; exact hrow2⟩, b3⟩
    · have ev : allV a b = cpT (sortL l) (sortL l).length := by unfold allV; rw [HL.out]
      have hrow3 : Row w2 g 40 ((sortL l).length * 2) (cellAt (sortL l)) := by rw [HS.out]; exact hrow2
      have X := compact_any g c1 (sortL l) w2 hrow3 (by omega) (by omega) (by omega) hcm
      rw [← ev] at X
      rw [HS.out] at X
      have XH := Lib.hid X
      have hlc : (allV a b).length ≤ c1 := by omega
      clear ev X hrow3 hrow2
      go_wp2_with fail
      refine XH.out.mono ?_
      rintro e w3 ⟨rfl, hrow4, hg3⟩
      have b4 : Below w.heap.size w w3 := b3.grown hg3 b3.size fun k e => by injection e with e; omega
      go_wp2_with fail
      refine (clip_any (some ⟨g, 0, none⟩) (allV a b).length c1 _ hlc).mono ?_
      rintro e w4 ⟨rfl, rfl⟩
      go_wp2
      go_ret
      exact ⟨some ⟨g, 0, none⟩, rfl, fun _ => ⟨g, rfl, by omega, hrow4⟩, b4⟩
end Go.Proofs.Ytihkdbgnoncgnaa
