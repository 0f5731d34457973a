/- Contracts of the library's growing and joining of lists of ties. No condition but that the lists are not too long. -/
import Derived.Test.YtihkdbgnoncgnaaLay
import Derived.Test.YtihkdbgnoncgnaaJoinLaw
import Derived.Test.YtihkdbgnoncgnaaPairTie
import Derived.Test.YtihkdbgnoncgnaaMore
namespace Go.Proofs.Ytihkdbgnoncgnaa
open Go.RowKit

set_option maxHeartbeats 1000000 in
theorem grow_any (n : Nat) (x : Int) (w : World) (hx : x = n) (hn : n ≤ 4194304) : Calls Try.prog 64 #[.slice none 0 0, .int .i64 x] w (RetS w 40 []) := by
  subst hx
  by_cases h0 : n = 0
  · subst h0
    refine (show Calls Try.prog 64 #[.slice none 0 0, .int .i64 (0 : Nat)] w _ from Any8.slices_Grow_room growTie none 0 0 0 w (Nat.le_refl _) (by omega) (by omega) (Nat.le_refl _)).mono ?_
    rintro e w' ⟨rfl, rfl⟩
    exact ⟨none, 0, rfl, World.ownsRow_nil _ _ _ _, Below.refl _ _⟩
  · obtain ⟨i, hi, hz0, hz1, hz2⟩ := info_parts infoTie
    refine (show Calls Try.prog 64 #[.slice none 0 0, .int .i64 (n : Nat)] w _ from Any8.slices_Grow_grow growTie i _ hi hz0 (by omega) none 0 0 n [] w (Nat.le_refl _) (by omega) (by rw [hz2]; omega) (by omega) (by simp) (fun _ => rfl) (fun a h => by cases h)).mono ?_
    rintro e w' ⟨rfl, rfl⟩
    have g1 := grownCap_ge w (0 + n) 0 40
    have g2 := grownCap_le_maxLen w (0 + n) 0 40 (by unfold maxLen; omega)
    refine ⟨_, _, rfl, World.ownsRow_made w.drew _ _ (Nat.le_refl _) g2 ?_, (below_drewN (Below.refl _ _) 1).alloc (Nat.le_refl _) _⟩
    have e : growTie_ren.t 25 = 40 := rfl
    rw [e]
    generalize grownCap w (0 + n) 0 40 = G at *
    simp [Builtin.zeroCells, Value.cells]
    omega

def catAt (w : World) (a b : List (Int × Int)) (i v : Value) (wr : World) : Prop :=
  (i = .int .i64 0 ∧ Acc2 w wr 40 v []) ∨ (i = .int .i64 1 ∧ Acc2 w wr 40 v a) ∨ (i = .int .i64 2 ∧ Acc2 w wr 40 v (a ++ b))
def sizAt (la lb : Nat) (i s : Value) : Prop := (i = .int .i64 0 ∧ s = .int .i64 0) ∨ (i = .int .i64 1 ∧ s = .int .i64 la) ∨ (i = .int .i64 2 ∧ s = .int .i64 ((la : Int) + lb))
set_option maxHeartbeats 2000000 in
theorem concat_any (A B : Option Addr) (g c d k : Nat) (a b : List (Int × Int)) (w : World) (h0 : w.cell? ⟨g, 0, none⟩ = some (.slice A a.length c)) (h1 : w.cell? ⟨g, 1, none⟩ = some (.slice B b.length d)) (hg : g < w.heap.size)
    (hr : Rd w w.heap.size A a) (hs : Rd w w.heap.size B b) (hn : a.length ≤ 1048576) (hm : b.length ≤ 1048576) :
    Calls Try.prog 48 #[.slice (some ⟨g, 0, none⟩) 2 k] w (RetS w 40 (a ++ b)) := by
  have l1 : decide ((a.length : Int) < 0) = false := decide_eq_false (by omega)
  have l2 : decide ((a.length : Int) + (b.length : Int) < 0) = false := decide_eq_false (by omega)
  have s1 : IntKind.i64.wrap ((a.length : Int) + (b.length : Int)) = (a.length : Int) + (b.length : Int) := IntWalk.i64_in _ (by omega)
  have l3 : (0 : Int) ≤ (a.length : Int) + (b.length : Int) := by omega
  go_enter Try.func48, Try.ntmps48
  go_wp2
  go_loop [11, 3] (fun i s => sizAt a.length b.length i s) (fun i _ => 2 - (intOf i).toNat)
  case atStart => exact .inl ⟨rfl, rfl⟩
  case round =>
    rcases hrel with ⟨rfl, rfl⟩ | ⟨rfl, rfl⟩ | ⟨rfl, rfl⟩
    · go_wp2
      exact ⟨.inr (.inl ⟨rfl, rfl⟩), by simp [intOf]⟩
    · go_wp2
      exact ⟨.inr (.inr ⟨rfl, rfl⟩), by simp [intOf]⟩
    · go_wp2_with fail
      refine (grow_any (a.length + b.length) _ _ (by omega) (by omega)).mono ?_
      rintro e w1 ⟨A1, c1, rfl, o1, b1⟩
      have acc1 : Acc2 w w1 40 (.slice A1 0 c1) [] := ⟨o1, b1⟩
      clear o1 b1
      go_wp2_with fail
      go_loopw [27, 6] (fun i v wr => catAt w a b i v wr) (fun i _ _ => 2 - (intOf i).toNat)
      case atStart => exact .inl ⟨rfl, acc1⟩
      case round =>
        clear acc1
        rcases hrel with ⟨rfl, hacc⟩ | ⟨rfl, hacc⟩ | ⟨rfl, hacc⟩
        · have e0 := (hacc.2.cell (p := ⟨g, 0, none⟩) hg).trans h0
          have hra := hr.below hacc.2
          have hz := hacc.2.size
          have hnn : ([] : List (Int × Int)).length + a.length ≤ 4294967296 := by simp only [List.length_nil]; omega
          go_wp2_with (at_builtin; refine wpList_appMany2 rfl _ _ _ rfl Try.underlying23 infoTie rfl hacc.1 hz rfl hra hnn ?_; intro v1 w2 o2 hg2 hat2)
          rw [List.nil_append] at o2
          exact ⟨.inr (.inl ⟨rfl, o2, hacc.2.grown hg2 hacc.2.size fun k hk => (hacc.1.lt k hk).1⟩), by simp [intOf]⟩
        · have e0 := (hacc.2.cell (p := ⟨g, 1, none⟩) hg).trans h1
          have hsb := hs.below hacc.2
          have hz := hacc.2.size
          have hnn : a.length + b.length ≤ 4294967296 := by omega
          go_wp2_with (at_builtin; refine wpList_appMany2 rfl _ _ _ rfl Try.underlying23 infoTie rfl hacc.1 hz rfl hsb hnn ?_; intro v1 w2 o2 hg2 hat2)
          exact ⟨.inr (.inr ⟨rfl, o2, hacc.2.grown hg2 hacc.2.size fun k hk => (hacc.1.lt k hk).1⟩), by simp [intOf]⟩
        · go_wp2
          go_ret
          obtain ⟨A2, c2, rfl⟩ := hacc.shape
          exact ⟨A2, c2, rfl, hacc⟩
end Go.Proofs.Ytihkdbgnoncgnaa
