/- The best cuts are allowed and none costs less (no program in sight). No condition. -/
import Derived.Test.YtbdhnfligfpigaaCBLaw
import Derived.Test.YtbdhnfligfpigaaCutTop
namespace Go.Proofs.Ytbdhnfligfpigaa

section
variable {a b : Nat} {c : List Int}
theorem al_path (ha : 1 ≤ a) (hc : ∀ k, k < c.length → 0 ≤ gI c k) : ∀ f k, k ≤ c.length → c.length - k ≤ f → 0 ≤ rs a b c k →
    al a b ((k : Int) - 1) (bcF a b c f k) = true ∧ lastOf ((k : Int) - 1) (bcF a b c f k) = (c.length : Int) - 1 ∧ costOf c (bcF a b c f k) = rs a b c k
  | 0, k, hk, hf, _ => by
    obtain rfl : k = c.length := by omega
    exact ⟨rfl, rfl, (rs_end a b c).symm⟩
  | f + 1, k, hk, hf, h0 => by
    by_cases hlt : k < c.length
    · rw [bcF, if_pos hlt]
      rcases rs_cases (b := b) ha hc k hlt with ⟨h, _⟩ | ⟨h1, h2, h3, h4, h5, _⟩
      · omega
      · obtain ⟨i1, i2, i3⟩ := al_path ha hc f (nx a b c k) h3 (by omega) h4
        refine ⟨?_, i2, ?_⟩
        · rw [al, i1, decide_eq_true (show (k : Int) - 1 + a ≤ (nx a b c k : Int) - 1 by omega), decide_eq_true (show (nx a b c k : Int) - 1 ≤ (k : Int) - 1 + b by omega)]; rfl
        · rw [costOf, i3, show ((nx a b c k : Int) - 1).toNat = nx a b c k - 1 by omega, h5]
    · rw [bcF, if_neg hlt]
      obtain rfl : k = c.length := by omega
      exact ⟨rfl, rfl, (rs_end a b c).symm⟩
theorem al_last {lo hi : Int} (hlo : 0 ≤ lo) : ∀ (cuts : List Int) (last : Int), al lo hi last cuts = true → last ≤ lastOf last cuts
  | [], _, _ => Int.le_refl _
  | x :: xs, last, h => by
    simp only [al, Bool.and_eq_true, decide_eq_true_eq] at h
    have := al_last hlo xs x h.2
    rw [lastOf]; omega
theorem al_min (ha : 1 ≤ a) (hc : ∀ k, k < c.length → 0 ≤ gI c k) : ∀ (cuts : List Int) (k : Nat), k ≤ c.length → al a b ((k : Int) - 1) cuts = true → lastOf ((k : Int) - 1) cuts = (c.length : Int) - 1 →
    0 ≤ rs a b c k ∧ rs a b c k ≤ costOf c cuts
  | [], k, hk, _, hl => by
    obtain rfl : k = c.length := by rw [lastOf] at hl; omega
    rw [rs_end]; exact ⟨Int.le_refl _, Int.le_refl _⟩
  | x :: xs, k, hk, h, hl => by
    simp only [al, Bool.and_eq_true, decide_eq_true_eq] at h
    obtain ⟨⟨x1, x2⟩, x3⟩ := h
    rw [lastOf] at hl
    have hx := al_last (by omega) xs x x3
    obtain ⟨t, rfl⟩ : ∃ t : Nat, x = (t : Int) - 1 := ⟨(x + 1).toNat, by omega⟩
    obtain ⟨i1, i2⟩ := al_min ha hc xs t (by omega) x3 hl
    rw [costOf, show ((t : Int) - 1).toNat = t - 1 by omega]
    rcases rs_cases (b := b) ha hc k (by omega) with ⟨_, _, h⟩ | ⟨h1, _, h3, h4, h5, h6, _⟩
    · have := h t (by omega) (by omega) (by omega); omega
    · have := h6 t (by omega) (by omega) (by omega) i1
      have := hc (nx a b c k - 1) (by omega)
      omega
end
theorem costOf_last {c : List Int} {lo hi : Int} (hlo : 1 ≤ lo) (hc : ∀ k, 0 ≤ gI c k) : ∀ (cuts : List Int) (last : Int), -1 ≤ last → al lo hi last cuts = true → 0 ≤ costOf c cuts ∧ (last < lastOf last cuts → gI c (lastOf last cuts).toNat ≤ costOf c cuts)
  | [], last, _, _ => ⟨Int.le_refl _, fun h => by rw [lastOf] at h; omega⟩
  | x :: xs, last, hl, h => by
    simp only [al, Bool.and_eq_true, decide_eq_true_eq] at h
    obtain ⟨i1, i2⟩ := costOf_last hlo hc xs x (by omega) h.2
    have h0 := hc x.toNat
    rw [costOf, lastOf]
    refine ⟨by omega, fun _ => ?_⟩
    by_cases e : x < lastOf x xs
    · have := i2 e; omega
    · have := al_last (by omega) xs x h.2
      rw [show lastOf x xs = x by omega]; omega
section
variable {c cuts : List Int} {lo hi : Int}
theorem nat_of_dst (h : dstOk lo hi = true) : ∃ a b : Nat, lo = a ∧ hi = b ∧ 1 ≤ a ∧ a ≤ b ∧ b ≤ 16 := by
  simp [dstOk] at h
  exact ⟨lo.toNat, hi.toNat, by omega, by omega, by omega, by omega, by omega⟩
theorem best_allowed (h : bestOk c lo hi = true) : allowed c lo hi (bestC c lo hi) = true ∧ costV c lo hi (bestC c lo hi) = rs lo.toNat hi.toNat c 0 ∧ 0 ≤ rs lo.toNat hi.toNat c 0 ∧ rs lo.toNat hi.toNat c 0 ≤ 16000 ∧ 1 ≤ manyV c.length lo hi := by
  have h' := h
  simp only [bestOk, Bool.and_eq_true, decide_eq_true_eq] at h'
  obtain ⟨⟨hs, hd⟩, hr⟩ := h'
  obtain ⟨a, b, rfl, rfl, d1, d2, d3⟩ := nat_of_dst hd
  rw [Int.toNat_natCast, Int.toNat_natCast] at hr
  obtain ⟨i1, i2, i3⟩ := al_path (b := b) d1 (fun k _ => (sig_nonneg hs k).1) c.length 0 (by omega) (by omega) hr
  have ha : allowed c a b (bestC c a b) = true := by
    rw [bestC_nat h]
    unfold allowed
    rw [hs, hd]
    have e : ((0 : Nat) : Int) - 1 = -1 := rfl
    rw [e] at i1 i2
    rw [i1, i2]; simp
  refine ⟨ha, ?_, hr, (rs_small d1 hs (by omega)).2, (many_iff hs hd).2 hr⟩
  unfold costV
  rw [if_pos ha, bestC_nat h, i3, Int.toNat_natCast, Int.toNat_natCast]
theorem best_min (h : allowed c lo hi cuts = true) : bestOk c lo hi = true ∧ costV c lo hi (bestC c lo hi) ≤ costOf c cuts := by
  have h' := h
  simp only [allowed, Bool.and_eq_true, decide_eq_true_eq] at h'
  obtain ⟨⟨hs, hd⟩, hal, hl⟩ := h'
  obtain ⟨a, b, rfl, rfl, d1, d2, d3⟩ := nat_of_dst hd
  obtain ⟨j1, j2⟩ := al_min (b := b) d1 (fun k _ => (sig_nonneg hs k).1) cuts 0 (by omega) hal hl
  have hb : bestOk c a b = true := by rw [bestOk_nat hs hd]; exact decide_eq_true j1
  refine ⟨hb, ?_⟩
  rw [(best_allowed hb).2.1, Int.toNat_natCast, Int.toNat_natCast]; exact j2
/-- Without limits a single cut is best. -/
theorem best_free (h : bestOk c lo hi = true) : bestOk c 1 16 = true ∧ costV c 1 16 (bestC c 1 16) = gI c (c.length - 1) ∧ gI c (c.length - 1) ≤ costV c lo hi (bestC c lo hi) ∧ 1 ≤ c.length := by
  obtain ⟨g1, g2, g3, _⟩ := best_allowed h
  have h' := g1
  simp only [allowed, Bool.and_eq_true, decide_eq_true_eq] at h'
  obtain ⟨⟨hs, hd⟩, hal, hl⟩ := h'
  obtain ⟨_, n1, n2⟩ := (sig_iff c).1 hs
  have hone : allowed c 1 16 [(c.length : Int) - 1] = true := by
    unfold allowed
    rw [hs]
    simp only [al, lastOf, dstOk, Bool.and_eq_true, decide_eq_true_eq]
    exact ⟨⟨trivial, ⟨by omega, by omega⟩, by omega⟩, ⟨⟨by omega, by omega⟩, trivial⟩, by first | trivial | rfl | omega⟩
  obtain ⟨b1, b2⟩ := best_min hone
  have hlow : ∀ (lo hi : Int) (x : List Int), allowed c lo hi x = true → gI c (c.length - 1) ≤ costOf c x := fun lo hi x hx => by
    simp only [allowed, Bool.and_eq_true, decide_eq_true_eq] at hx
    obtain ⟨⟨_, hd⟩, q1, q2⟩ := hx
    have d1 : 1 ≤ lo := by simp [dstOk] at hd; omega
    have := (costOf_last d1 (fun k => (sig_nonneg hs k).1) x (-1) (by omega) q1).2 (by omega)
    rwa [q2, show ((c.length : Int) - 1).toNat = c.length - 1 by omega] at this
  obtain ⟨f1, f2, _⟩ := best_allowed b1
  have e1 := hlow _ _ _ f1
  have e2 := hlow _ _ _ g1
  refine ⟨b1, ?_, ?_, n1⟩
  · have e3 : costV c 1 16 (bestC c 1 16) = costOf c (bestC c 1 16) := by rw [costV, if_pos f1]
    rw [costOf, costOf, show ((c.length : Int) - 1).toNat = c.length - 1 by omega] at b2
    omega
  · rw [costV, if_pos g1]; exact e2
theorem al_wide : ∀ (cuts : List Int) (last : Int), al lo hi last cuts = true → al lo (hi + 1) last cuts = true
  | [], _, _ => rfl
  | x :: xs, last, h => by
    simp only [al, Bool.and_eq_true, decide_eq_true_eq] at h ⊢
    exact ⟨⟨h.1.1, by omega⟩, al_wide xs x h.2⟩
/-- Wider limits: no dearer. -/
theorem best_wider (h : bestOk c lo hi = true) (hne : hi ≠ 16) : bestOk c lo (hi + 1) = true ∧ costV c lo (hi + 1) (bestC c lo (hi + 1)) ≤ costV c lo hi (bestC c lo hi) := by
  obtain ⟨g1, _⟩ := best_allowed h
  have h' := g1
  simp only [allowed, Bool.and_eq_true, decide_eq_true_eq] at h'
  obtain ⟨⟨hs, hd⟩, hal, hl⟩ := h'
  have hw : allowed c lo (hi + 1) (bestC c lo hi) = true := by
    simp only [dstOk, Bool.and_eq_true, decide_eq_true_eq] at hd
    simp only [allowed, dstOk, Bool.and_eq_true, decide_eq_true_eq]
    exact ⟨⟨hs, ⟨hd.1.1, by omega⟩, by omega⟩, al_wide _ _ hal, hl⟩
  have := best_min hw
  rw [costV.eq_1 c lo hi, if_pos g1]; exact this
theorem best_16 : bestOk c lo (16 + 1) = false := by simp [bestOk, dstOk]
end
open Go.RowKit
theorem below_same {e : Ending} {w w' : World} {o : Ending} (h : e = o ∧ w = w') : e = o ∧ Below w.heap.size w w' := ⟨h.1, h.2 ▸ Below.refl _ _⟩
theorem cutsAllowedB_any (A B : Option Addr) (ca cb : Nat) (c cuts : List Int) (lo hi : Int) (w : World) (hr : RdI w w.heap.size .i64 A c) (hs : RdI w w.heap.size .i64 B cuts) (hn : c.length ≤ 1048576) (hm : cuts.length ≤ 1048576) :
    Calls Try.prog 23 #[.slice A c.length ca, .int .i64 lo, .int .i64 hi, .slice B cuts.length cb] w fun e w' => e = .returned (.bool (allowed c lo hi cuts)) ∧ Below w.heap.size w w' :=
  (cutsAllowed_any A B ca cb c cuts lo hi w hr hs hn hm).mono fun _ _ h => below_same h
theorem cutsCostB_any (A B : Option Addr) (ca cb : Nat) (c cuts : List Int) (lo hi : Int) (w : World) (hr : RdI w w.heap.size .i64 A c) (hs : RdI w w.heap.size .i64 B cuts) (hn : c.length ≤ 1048576) (hm : cuts.length ≤ 1048576) :
    Calls Try.prog 30 #[.slice A c.length ca, .int .i64 lo, .int .i64 hi, .slice B cuts.length cb] w fun e w' => e = .returned (.int .i64 (costV c lo hi cuts)) ∧ Below w.heap.size w w' :=
  (cutsCost_any A B ca cb c cuts lo hi w hr hs hn hm).mono fun _ _ h => below_same h
end Go.Proofs.Ytbdhnfligfpigaa
