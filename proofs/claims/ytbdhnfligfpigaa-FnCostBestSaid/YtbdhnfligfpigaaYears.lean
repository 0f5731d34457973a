/- Contract of CutsYears where there are ways to cut; the reference's contracts of allowed cuts and their cost with memory that may grow; a list of one. -/
import Derived.Test.YtbdhnfligfpigaaCutMore
import Derived.Test.YtbdhnfligfpigaaTree
namespace Go.Proofs.Ytbdhnfligfpigaa
open Go.RowKit
/-- The condition: there is at least one way. -/
theorem many_parts {n lo hi : Int} (h : 1 ≤ manyV n lo hi) : 1 ≤ n ∧ n ≤ 16 ∧ dstOk lo hi = true := by
  unfold manyV at h
  split at h
  · rename_i h1
    simp only [Bool.and_eq_true, decide_eq_true_eq] at h1
    exact ⟨h1.1.1, h1.1.2, h1.2⟩
  · omega
set_option maxHeartbeats 1000000 in
theorem cutsYears_yes (n lo hi : Int) (w : World) (h : 1 ≤ manyV n lo hi) :
    Calls Try.prog 28 #[.int .i64 n, .int .i64 lo, .int .i64 hi] w fun e w' => e = .returned (.tuple #[.int .i64 ((n + hi - 1) / hi), .int .i64 (n / lo), .bool true]) ∧ Below w.heap.size w w' := by
  obtain ⟨n1, n2, hd⟩ := many_parts h
  obtain ⟨d1, d2, d3⟩ := dst_parts hd
  have h' : decide (manyV n lo hi < 1) = false := decide_eq_false (by omega)
  clear hd
  have s1 : IntKind.i64.wrap (n + hi) = n + hi := IntWalk.i64_in _ (by omega)
  have s2 : IntKind.i64.wrap (n + hi - 1) = n + hi - 1 := IntWalk.i64_in _ (by omega)
  have z1 : (0 : Int) ≤ n + hi - 1 := by omega
  have z2 : 0 ≤ (n + hi - 1) / hi := Int.ediv_nonneg (by omega) (by omega)
  have z3 : (n + hi - 1) / hi ≤ n + hi - 1 := Int.ediv_le_self _ (by omega)
  have z4 : 0 ≤ n / lo := Int.ediv_nonneg (by omega) (by omega)
  have z5 : n / lo ≤ n := Int.ediv_le_self _ (by omega)
  have e1 : (n + hi - 1).tdiv hi = (n + hi - 1) / hi := Int.tdiv_eq_ediv_of_nonneg (by omega)
  have e2 : n.tdiv lo = n / lo := Int.tdiv_eq_ediv_of_nonneg (by omega)
  have s3 : IntKind.i64.wrap ((n + hi - 1) / hi) = (n + hi - 1) / hi := IntWalk.i64_in _ (by omega)
  have s4 : IntKind.i64.wrap (n / lo) = n / lo := IntWalk.i64_in _ (by omega)
  have q1 : (hi == 0) = false := by simp; omega
  have q2 : (lo == 0) = false := by simp; omega
  go_enter Try.func28, Try.ntmps28
  go_wp2_with fail
  refine (cutsMany_any n lo hi _).mono ?_
  rintro e w1 ⟨rfl, b1⟩
  clear h
  go_wp2_with fail
  go_quiet (fail)
  go_wp2
  go_ret3
  exact ⟨rfl, below_drewN b1 _⟩
theorem specCutsAllowedB_any (A B : Option Addr) (ca cb : Nat) (c cuts : List Int) (lo hi : Int) (w : World) (hr : RdI w w.heap.size .i64 A c) (hs : RdI w w.heap.size .i64 B cuts) (hn : c.length ≤ 1048576) (hm : cuts.length ≤ 1048576) :
    Calls Try.prog 24 #[.slice A c.length ca, .int .i64 lo, .int .i64 hi, .slice B cuts.length cb] w fun e w' => e = .returned (.bool (allowed c lo hi cuts)) ∧ Below w.heap.size w w' :=
  (specCutsAllowed_any A B ca cb c cuts lo hi w hr hs hn hm).mono fun _ _ h => below_same h
theorem specCutsCostB_any (A B : Option Addr) (ca cb : Nat) (c cuts : List Int) (lo hi : Int) (w : World) (hr : RdI w w.heap.size .i64 A c) (hs : RdI w w.heap.size .i64 B cuts) (hn : c.length ≤ 1048576) (hm : cuts.length ≤ 1048576) :
    Calls Try.prog 31 #[.slice A c.length ca, .int .i64 lo, .int .i64 hi, .slice B cuts.length cb] w fun e w' => e = .returned (.int .i64 (costV c lo hi cuts)) ∧ Below w.heap.size w w' :=
  (specCutsCost_any A B ca cb c cuts lo hi w hr hs hn hm).mono fun _ _ h => below_same h
theorem rdI_one (w : World) (x : Int) (t : TypeId) : RdI (w.alloc (.cells #[.int .i64 x] t)) (w.alloc (.cells #[.int .i64 x] t)).heap.size .i64 (some ⟨w.heap.size, 0, none⟩) [x] := fun _ => by
  refine ⟨w.heap.size, 0, rfl, (Blk.new_ w t #[.int .i64 x]).lt, fun k hk => ?_⟩
  have hk0 : k = 0 := by simpa using hk
  subst hk0
  exact (Blk.new_ w t #[.int .i64 x]).cell 0
end Go.Proofs.Ytbdhnfligfpigaa
