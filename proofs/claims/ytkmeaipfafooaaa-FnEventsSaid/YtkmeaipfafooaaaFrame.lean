/- What a law's arguments read as: slices of bytes, of integers and of pairs. No condition. -/
import Derived.Test.YtkmeaipfafooaaaRows
import Derived.Test.YtkmeaipfafooaaaLib
import Derived.ProofKit
import Derived.OpenShut
import Derived.ChangeOld
import Derived.Deep.Slices
import Derived.Deep.Fields
namespace Go.Proofs.Ytkmeaipfafooaaa
open Go.ChangeShapes Go.WideShapes Go.ChangeAt Go.RowKit Go.Deep

theorem own_ : ownKnob Try.prog.godebug = none := by kernel_rfl
theorem laidOut_ : laidOutB Try.prog = true := by kernel_rfl

section
variable {H : Type} {enc : TypeId × Value → H} {P : Program} {w : World} {base : Nat} {spare : Nat → Bool} {held : Bool}
theorem open_fields {t e : TypeId} {fs : Array Field} {fuel : Nat} {cs : List Value} {x : DataW H × List MemPlace} (ht : P.underlying t = some (.slice e)) (he : P.underlying e = some (.struct fs))
    (hone : oneCellFields P fs = true) (hC : P.cellsOf e = fs.size) (h : DataW.trod enc P w base spare held fuel t cs = some x) :
    (cs = [.slice none 0 0]) ∨
    ∃ (a : Addr) (len cap m : Nat), cs = [.slice (some a) len cap] ∧ len ≤ cap ∧ cap ≤ maxLen ∧ m = (if spare a.block then cap else len) ∧
      ∀ i, i < m → ∃ (ys : List (DataW H × List MemPlace)) (n : Nat), ys.length = fs.size ∧
        ∀ (j : Nat) (f : Field), fs[j]? = some f → ∃ (v : Value) (y : DataW H × List MemPlace), w.cell? (a.add (i * fs.size + j)) = some v ∧ ys[j]? = some y ∧ DataW.trod enc P w base spare held n f.type [v] = some y := by
  rcases open_slice ht h with h0 | ⟨a, len, cap, m, n, D, Pl, hcs, hb, hl, hm, hmm, hx, hi⟩
  · exact .inl h0.1
  · refine .inr ⟨a, len, cap, m, hcs, hl, hm, hmm, fun i him => ?_⟩
    obtain ⟨cs', hc, ht'⟩ := hi i him
    rw [hC] at hc
    obtain ⟨ys, n', hn', hy, hlen, hyl, hf⟩ := DataW.trod_struct he ht'
    obtain ⟨_, hcl, hat⟩ := World.cells?_some hc
    refine ⟨ys, n', hyl, fun j f hj => ?_⟩
    obtain ⟨ho, hk⟩ := hone_of hone j f hj
    have hjl : j < fs.size := (Array.getElem?_eq_some_iff.1 hj).1
    have hcell := hat j hjl
    have hv : cs'[j]? = some (cs'[j]'(by omega)) := List.getElem?_eq_getElem (by omega)
    have h1 := hf j f hj
    rw [ho, hk] at h1
    have hone' : (cs'.drop j).take 1 = [cs'[j]'(by omega)] := by
      rw [List.drop_eq_getElem_cons (by omega)]
      rfl
    rw [hone'] at h1
    have hys : ys[j]? = some (ys[j]'(by omega)) := List.getElem?_eq_getElem (by omega)
    refine ⟨_, _, ?_, hys, h1.trans hys⟩
    rw [← Go.Deep.add_add, hcell, hv]

/-- A slice of integers that came in. -/
theorem openI {t e : TypeId} {k : IntKind} {fuel : Nat} {a0 : Option Addr} {n0 c0 : Nat} {x : DataW H × List MemPlace} (ht : P.underlying t = some (.slice e)) (he : P.underlying e = some (.int k)) (hc : P.cellsOf e = 1)
    (h : DataW.trod enc P w base (fun _ => true) held fuel t [.slice a0 n0 c0] = some x) :
    ∃ l : List Int, l.length = n0 ∧ RdI w w.heap.size k a0 l ∧ (∀ z ∈ l, (Lit.int k z).wf = true) ∧ n0 ≤ c0 ∧ c0 ≤ maxLen := by
  rcases open_ints ht he hc h with ⟨hcs, _⟩ | ⟨a, len, cap, zs, hcs, _, hl, hm, hz, _, hcell, hwz⟩
  · simp only [List.cons.injEq, and_true, Value.slice.injEq] at hcs
    obtain ⟨rfl, rfl, rfl⟩ := hcs
    exact ⟨[], rfl, RdI.nil_, fun z hz => by simp at hz, Nat.le_refl _, Nat.zero_le _⟩
  · simp only [List.cons.injEq, and_true, Value.slice.injEq] at hcs
    obtain ⟨rfl, rfl, rfl⟩ := hcs
    rw [if_pos rfl] at hz
    refine ⟨zs.take n0, by rw [List.length_take]; omega, fun hl0 => ?_, fun z hz => hwz z (List.mem_of_mem_take hz), hl, hm⟩
    have hn0 : 0 < n0 := by rw [List.length_take] at hl0; omega
    obtain ⟨b, off, rfl, hcc⟩ := ints_at hcell (by omega)
    refine ⟨b, off, rfl, World.block_lt_of_cell? _ _ (hcc 0 (by omega)), fun i hi => ?_⟩
    rw [List.length_take] at hi
    rw [hcc i (by omega)]
    have : i < n0 := by omega
    simp [gI, this]

/-- A slice of pairs that came in. -/
theorem openS {t e ti : TypeId} {f0 f1 : Field} {fuel : Nat} {a0 : Option Addr} {n0 c0 : Nat} {x : DataW H × List MemPlace} (ht : P.underlying t = some (.slice e)) (he : P.underlying e = some (.struct #[f0, f1]))
    (hone : oneCellFields P #[f0, f1] = true) (hC : P.cellsOf e = 2) (h0 : f0.type = ti) (h1 : f1.type = ti) (hi : P.underlying ti = some (.int .i64))
    (h : DataW.trod enc P w base (fun _ => true) held fuel t [.slice a0 n0 c0] = some x) :
    ∃ l : List (Int × Int), l.length = n0 ∧ Rd w w.heap.size a0 l ∧ (∀ q ∈ l, (Lit.int .i64 q.1).wf = true ∧ (Lit.int .i64 q.2).wf = true) ∧ n0 ≤ c0 ∧ c0 ≤ maxLen := by
  rcases open_fields ht he hone hC h with hcs | ⟨a, len, cap, m, hcs, hl, hm, hmm, hf⟩
  · simp only [List.cons.injEq, and_true, Value.slice.injEq] at hcs
    obtain ⟨rfl, rfl, rfl⟩ := hcs
    exact ⟨[], rfl, Rd.nil_, fun z hz => by simp at hz, Nat.le_refl _, Nat.zero_le _⟩
  · simp only [List.cons.injEq, and_true, Value.slice.injEq] at hcs
    obtain ⟨rfl, rfl, rfl⟩ := hcs
    rw [if_pos rfl] at hmm
    subst hmm
    have hex : ∀ i, ∃ q : Int × Int, i < m → w.cell? (a.add (i * 2)) = some (.int .i64 q.1) ∧ w.cell? (a.add (i * 2 + 1)) = some (.int .i64 q.2) ∧ (Lit.int .i64 q.1).wf = true ∧ (Lit.int .i64 q.2).wf = true := by
      intro i
      by_cases him : i < m
      · obtain ⟨ys, n, hyl, hg⟩ := hf i him
        obtain ⟨v0, y0, c0, _, t0⟩ := hg 0 f0 rfl
        obtain ⟨v1, y1, c1, _, t1⟩ := hg 1 f1 rfl
        rw [h0] at t0
        rw [h1] at t1
        obtain ⟨x0, p0, e0, w0⟩ := DataW.trod_int hi t0
        obtain ⟨x1, p1, e1, w1⟩ := DataW.trod_int hi t1
        simp only [List.cons.injEq, and_true] at p0 p1
        subst p0 p1
        exact ⟨(x0, x1), fun _ => ⟨c0, c1, w0, w1⟩⟩
      · exact ⟨(0, 0), fun h => absurd h him⟩
    let F : Nat → Int × Int := fun i => Classical.choose (hex i)
    have hF : ∀ i, i < m → w.cell? (a.add (i * 2)) = some (.int .i64 (F i).1) ∧ w.cell? (a.add (i * 2 + 1)) = some (.int .i64 (F i).2) ∧ (Lit.int .i64 (F i).1).wf = true ∧ (Lit.int .i64 (F i).2).wf = true := fun i => Classical.choose_spec (hex i)
    have hlen : ((List.range n0).map F).length = n0 := by simp
    refine ⟨(List.range n0).map F, hlen, fun hl0 => ?_, fun q hq => ?_, hl, hm⟩
    · rw [hlen] at hl0
      have hc := (hF 0 (by omega)).1
      obtain ⟨b, off, spot⟩ := a
      have hspot : spot = none := by simpa [Addr.add] using World.cell?_spot hc
      subst hspot
      have hadd : ∀ j, (⟨b, off, none⟩ : Addr).add j = ⟨b, off + j, none⟩ := fun j => Go.WideShapes.add_plain ..
      refine ⟨b, off, rfl, World.block_lt_of_cell? w ⟨b, off + 0 * 2, none⟩ (by rw [← hadd]; exact hc), fun i hi => ?_⟩
      rw [hlen] at hi
      obtain ⟨g1, g2, _, _⟩ := hF i (by omega)
      rw [hadd] at g1 g2
      rw [← Nat.add_assoc] at g2
      rw [g1, g2]
      simp [fA, fB, hi]
    · obtain ⟨i, hi, rfl⟩ := List.mem_map.1 hq
      have := hF i (by have := List.mem_range.1 hi; omega)
      exact ⟨this.2.2.1, this.2.2.2⟩
end

theorem wf_u8 {x : Int} (h : (Lit.int .u8 x).wf = true) : 0 ≤ x ∧ x ≤ 255 := bounds_u8 h
theorem wf_bytes {l : List Int} (h : ∀ z ∈ l, (Lit.int .u8 z).wf = true) : ∀ x ∈ l, 0 ≤ x ∧ x ≤ 255 := fun x hx => wf_u8 (h x hx)

end Go.Proofs.Ytkmeaipfafooaaa
