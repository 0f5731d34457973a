/- Contracts of the reader behind the drawn inputs: what is drawn is a number in its range; only the reader's own place moves. No condition but the code's length. -/
import Derived.Test.YtkmeaipfafooaaaPlan
import Derived.Test.YtkmeaipfafooaaaProg
import Derived.Laws.BitsAllLaws
import Derived.Laws.BitsLemmas
namespace Go.Proofs.Ytkmeaipfafooaaa
open Go.RowKit

/-- Block g is a reader over the bytes l, p numbers drawn. -/
def Rdr (w : World) (g : Nat) (l : List Int) (p : Nat) : Prop :=
  ∃ A c, w.heap[g]? = some (.cells #[.slice A l.length c, .int .i64 p] 36 (0, 0)) ∧ (∀ x ∈ l, 0 ≤ x ∧ x ≤ 255) ∧ l.length ≤ 2000 ∧ RdI w g .u8 A l

section
variable {w w' : World} {g : Nat} {l : List Int} {p : Nat}
theorem Rdr.lt (h : Rdr w g l p) : g < w.heap.size := by
  obtain ⟨A, c, hb, _⟩ := h
  exact (Array.getElem?_eq_some_iff.1 hb).1
theorem Rdr.of_block (h : Rdr w g l p) (e : w'.heap[g]? = w.heap[g]?) (hb : ∀ k, k < g → w'.heap[k]? = w.heap[k]?) : Rdr w' g l p := by
  obtain ⟨A, c, h1, h2, h3, h4⟩ := h
  exact ⟨A, c, e.trans h1, h2, h3, h4.keep fun q hq => World.cell?_of_block (hb q.block hq)⟩
theorem Rdr.below (h : Rdr w g l p) {B : Nat} (hb : Below B w w') (hg : g < B) : Rdr w' g l p := h.of_block (hb.block g hg) fun k hk => hb.block k (by omega)
theorem Rdr.alloc (h : Rdr w g l p) (o : Obj) : Rdr (w.alloc o) g l p := h.of_block (Below.heap_alloc w o g h.lt) fun k hk => Below.heap_alloc w o k (by have := h.lt; omega)
theorem Rdr.drewN (h : Rdr w g l p) (n : Nat) : Rdr (w.drewN n) g l p := h
theorem Rdr.far (h : Rdr w g l p) {q : Addr} (hq : g < q.block) (u : Value) : Rdr (w.setCell q u) g l p :=
  h.of_block (Below.heap_setCell w q u g (by omega)) fun k hk => Below.heap_setCell w q u k (by omega)
theorem Rdr.grown (h : Rdr w g l p) {row : Option Nat} (hg : w.grownBy w' row) (hr : ∀ k, row = some k → g < k) : Rdr w' g l p :=
  h.of_block (hg.block g h.lt fun e => by have := hr g e.symm; omega) fun k hk => hg.block k (by have := h.lt; omega) fun e => by have := hr k e.symm; omega
end

/-- A number below n (0 if n is less than 1), the reader a place further, nothing else turned. -/
def Picked (w : World) (g : Nat) (l : List Int) (p : Nat) (n : Int) (e : Ending) (w' : World) : Prop :=
  ∃ x : Int, e = .returned (.int .i64 x) ∧ 0 ≤ x ∧ (x < n ∨ x = 0) ∧ x ≤ 4294967296 ∧ Rdr w' g l (p + 1) ∧ w.grownBy w' (some g)

theorem ofInt_i64 (a : Nat) (ha : a < 9223372036854775808) : (BitVec.ofInt 64 (a : Int)).toNat = a := by
  rw [BitVec.ofInt_natCast, BitVec.toNat_ofNat]; exact Nat.mod_eq_of_lt (by omega)
theorem i64_xor_nat (a b : Nat) (ha : a < 9223372036854775808) (hb : b < 9223372036854775808) : bits .xor .i64 (a : Int) (b : Int) = ((a ^^^ b : Nat) : Int) := by
  have hx : a ^^^ b < 2 ^ 63 := Nat.xor_lt_two_pow (by omega) (by omega)
  show IntKind.i64.wrap ((BitVec.ofInt 64 (a : Int) ^^^ BitVec.ofInt 64 (b : Int)).toNat : Int) = _
  rw [BitVec.toNat_xor, ofInt_i64 a ha, ofInt_i64 b hb, IntKind.wrap_i64]
  omega
theorem xor_bd (x : Int) (h0 : 0 ≤ x) (h1 : x < 4294967296) : 0 ≤ bits .xor .i64 x (x / 64) ∧ bits .xor .i64 x (x / 64) < 4294967296 := by
  obtain ⟨a, rfl⟩ := Int.eq_ofNat_of_zero_le h0
  have e : (a : Int) / 64 = ((a / 64 : Nat) : Int) := by omega
  rw [e, i64_xor_nat a (a / 64) (by omega) (by omega)]
  have : a ^^^ (a / 64) < 2 ^ 32 := Nat.xor_lt_two_pow (by omega) (by omega)
  omega

set_option maxHeartbeats 1000000 in
theorem pick_any (g : Nat) (l : List Int) (p : Nat) (n : Int) (w : World) (hr : Rdr w g l p) (hp : p ≤ 1000000) (hn : n ≤ 1000000) :
    Calls Try.prog 9 #[.pointer (some ⟨g, 0, none⟩), .int .i64 n] w (Picked w g l p n) := by
  obtain ⟨A, c, hblk, hby, hlen, hrd⟩ := hr
  have hg : g < w.heap.size := (Array.getElem?_eq_some_iff.1 hblk).1
  have c0 : w.cell? ⟨g, 0, none⟩ = some (.slice A l.length c) := by simp [World.cell?, hblk]
  have c1 : w.cell? ⟨g, 1, none⟩ = some (.int .i64 p) := by simp [World.cell?, hblk]
  have f1 : w.frozen? ⟨g, 1, none⟩ = false := by simp [World.frozen?, hblk]
  have hR : Rdr (w.setCell ⟨g, 1, none⟩ (.int .i64 (p + 1))) g l (p + 1) := by
    refine ⟨A, c, ?_, hby, hlen, hrd.keep fun q hq => World.cell?_setCell_other w _ q _ (fun e => by subst e; simp at hq)⟩
    simp [World.setCell, Array.getElem?_modify, hblk]
  have hG : w.grownBy (w.setCell ⟨g, 1, none⟩ (.int .i64 (p + 1))) (some g) := grownBy_set (grownBy_refl _ _) _ _
  have HR := Lib.hid hR
  have HG := Lib.hid hG
  have HB := Lib.hid hby
  clear hblk hR hG hby
  by_cases h1 : n < 1
  · go_enter Try.func9, Try.ntmps9
    go_wp2
    go_ret
    exact ⟨0, rfl, by omega, by omega, by omega, HR.out, HG.out⟩
  · have h1' : decide (n < 1) = false := by simpa using h1
    by_cases h2 : l.length = 0
    · have h2' : ((l.length : Int) == 0) = true := by simp [h2]
      have H2 := Lib.hid h2
      clear h2
      go_enter Try.func9, Try.ntmps9
      go_wp2
      go_ret
      exact ⟨0, rfl, by omega, by omega, by omega, HR.out, HG.out⟩
    · have h2' : ((l.length : Int) == 0) = false := by simp; intro e; simp [e] at h2
      have hl0 : 0 < l.length := by omega
      obtain ⟨b, o, rfl, hB, hcs⟩ := hrd hl0
      by_cases h3 : p < l.length
      · have cc : (w.setCell ⟨g, 1, none⟩ (.int .i64 (p + 1))).cell? ⟨b, o + p, none⟩ = some (.int .u8 (gI l p)) := by
          rw [World.cell?_setCell_other w _ _ _ (fun e => by injection e with e _; omega)]
          exact hcs p h3
        have hb1 := (HB.out _ (List.getElem_mem h3)).1
        have hb2 := (HB.out _ (List.getElem_mem h3)).2
        rw [← gI_lt h3] at hb1 hb2
        have hn1 : 1 ≤ n := by omega
        clear hcs hrd
        go_enter Try.func9, Try.ntmps9
        go_wp2
        go_ret
        have hm := Int.emod_nonneg (gI l p) (show n ≠ 0 by omega)
        have hm2 := Int.emod_lt_of_pos (gI l p) (show 0 < n by omega)
        exact ⟨gI l p % n, rfl, hm, .inl hm2, by omega, HR.out, HG.out⟩
      · have hn1 : 1 ≤ n := by omega
        have hq1 : p % l.length < l.length := Nat.mod_lt _ hl0
        have hq2 : (p * 7 + 3) % l.length < l.length := Nat.mod_lt _ hl0
        have cell : ∀ j, j < l.length → (w.setCell ⟨g, 1, none⟩ (.int .i64 (p + 1))).cell? ⟨b, o + j, none⟩ = some (.int .u8 (gI l j)) := fun j hj => by
          rw [World.cell?_setCell_other w _ _ _ (fun e => by injection e with e _; omega)]
          exact hcs j hj
        have cc1 := cell _ hq1
        have cc2 := cell _ hq2
        have bd : ∀ j, j < l.length → 0 ≤ gI l j ∧ gI l j ≤ 255 := fun j hj => by rw [gI_lt hj]; exact HB.out _ (List.getElem_mem hj)
        obtain ⟨ba, bb⟩ := bd _ hq1
        obtain ⟨bc, bd'⟩ := bd _ hq2
        have hlz : (1 : Int) ≤ (l.length : Int) := by omega
        have z1 : 0 ≤ (p : Int) % (l.length : Int) := Int.emod_nonneg _ (by omega)
        have z2 : (p : Int) % (l.length : Int) < (l.length : Int) := Int.emod_lt_of_pos _ (by omega)
        have z3 : 0 ≤ ((p : Int) * 7 + 3) % (l.length : Int) := Int.emod_nonneg _ (by omega)
        have z4 : ((p : Int) * 7 + 3) % (l.length : Int) < (l.length : Int) := Int.emod_lt_of_pos _ (by omega)
        have m1 : ((p : Int) % (l.length : Int)).toNat = p % l.length := by rw [← Int.natCast_emod]; exact Int.toNat_natCast _
        have m2 : (((p : Int) * 7 + 3) % (l.length : Int)).toNat = (p * 7 + 3) % l.length := by
          rw [show ((p : Int) * 7 + 3) = ((p * 7 + 3 : Nat) : Int) from by omega, ← Int.natCast_emod]; exact Int.toNat_natCast _
        have z5 : 0 ≤ (p : Int) / (l.length : Int) := Int.ediv_nonneg (by omega) (by omega)
        have z6 : (p : Int) / (l.length : Int) ≤ 1000000 := by have := Int.ediv_le_self (l.length : Int) (show (0 : Int) ≤ (p : Int) by omega); omega
        generalize hX1 : gI l (p % l.length) = X1 at *
        generalize hX2 : gI l ((p * 7 + 3) % l.length) = X2 at *
        have HX := Lib.hid (And.intro hX1 hX2)
        clear hX1 hX2 hcs hrd cell bd
        go_enter Try.func9, Try.ntmps9
        go_wp2_with fail
        go_quiet (fail)
        have b0 : 0 ≤ X1 * 131 + X2 * 1117 + (p : Int) * 29 + (p : Int) / (l.length : Int) * 53 := by omega
        have b1 : X1 * 131 + X2 * 1117 + (p : Int) * 29 + (p : Int) / (l.length : Int) * 53 < 4294967296 := by omega
        generalize X1 * 131 + X2 * 1117 + (p : Int) * 29 + (p : Int) / (l.length : Int) * 53 = S at b0 b1 ⊢
        obtain ⟨y0, y1⟩ := xor_bd S b0 b1
        go_wp2
        go_ret
        have hm := Int.emod_nonneg (bits .xor .i64 S (S / 64)) (show n ≠ 0 by omega)
        have hm2 := Int.emod_lt_of_pos (bits .xor .i64 S (S / 64)) (show 0 < n by omega)
        exact ⟨bits .xor .i64 S (S / 64) % n, rfl, hm, .inl hm2, by omega, HR.out, grownBy_drewN HG.out _⟩

/-- A reader has been opened over (the head of) a code. -/
def Opened (w : World) (e : Ending) (w' : World) : Prop := ∃ g l, e = .returned (.pointer (some ⟨g, 0, none⟩)) ∧ w.heap.size ≤ g ∧ Rdr w' g l 0 ∧ Below w.heap.size w w'

set_option maxHeartbeats 1000000 in
theorem open_any (A : Option Addr) (c : Nat) (l : List Int) (w : World) (hr : RdI w w.heap.size .u8 A l) (hby : ∀ x ∈ l, 0 ≤ x ∧ x ≤ 255) (hn : l.length ≤ 1048576) (hc : l.length ≤ c) (hc' : c ≤ 9223372036854775807) :
    Calls Try.prog 7 #[.slice A l.length c] w (Opened w) := by
  have HB := Lib.hid hby
  clear hby
  have hb : ∀ v : Value, Below w.heap.size w (w.alloc (.cells #[v, .int .i64 0] 36)) := fun v => (Below.refl _ _).alloc (Nat.le_refl _) _
  by_cases h : l.length ≤ 2000
  · go_enter Try.func7, Try.ntmps7
    go_wp2
    go_ret
    exact ⟨w.heap.size, l, rfl, Nat.le_refl _, ⟨A, c, heap_alloc_new w _, HB.out, h, hr.below (hb _)⟩, hb _⟩
  · have h' : (2000 : Int) < (l.length : Int) := by omega
    have hcc : (2000 : Int) ≤ (c : Int) := by omega
    obtain ⟨b, o, rfl, hB, hcs⟩ := hr (by omega)
    have hl : (l.take 2000).length = 2000 := by rw [List.length_take]; omega
    have HC := Lib.hid hcs
    have HL := Lib.hid hl
    clear hr hcs hl
    go_enter Try.func7, Try.ntmps7
    go_wp2
    go_ret
    refine ⟨w.heap.size, l.take 2000, rfl, Nat.le_refl _, ⟨some ⟨b, o, none⟩, c, ?_, fun x hx => HB.out x (List.mem_of_mem_take hx), by rw [HL.out]; omega, ?_⟩, hb _⟩
    · rw [HL.out]; exact heap_alloc_new w _
    · refine RdI.below (w := w) ?_ (hb _)
      intro _
      refine ⟨b, o, rfl, hB, fun k hk => ?_⟩
      rw [HL.out] at hk
      rw [HC.out k (by omega)]
      simp [gI, hk]

end Go.Proofs.Ytkmeaipfafooaaa
