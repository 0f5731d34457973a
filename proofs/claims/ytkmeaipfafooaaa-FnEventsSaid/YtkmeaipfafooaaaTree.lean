/- A region that draws its order, walked along a tree of plans: as in 'Plan', and where two operations may come up, both orders are walked. No condition. -/
import Derived.Test.YtkmeaipfafooaaaPlan
namespace Go.Proofs.Ytkmeaipfafooaaa
open Go.RowKit

inductive Tree where
  | fin (qs : List Nat)
  | one (qs : List Nat) (e : Nat) (t : Tree)
  | two (qs : List Nat) (e : Nat) (t : Tree) (f : Nat) (u : Tree)

def Tree.stop : Tree → Bool
  | .fin [] => true
  | _ => false
def Tree.len : Tree → Nat
  | .fin qs => qs.length
  | .one qs _ t => t.len + 1 + qs.length
  | .two qs _ t _ _ => t.len + 1 + qs.length
def treeB (md : Region.Mode) (ops : Array Oper) (z : Nat) : Tree → Array Bool → Bool
  | .fin qs, listed => quietB md ops z qs listed && (Region.ready md ops (setAll listed qs)).isEmpty
  | .one qs e t, listed => quietB md ops z qs listed && (Region.ready md ops (setAll listed qs) == [e]) && (e != z || t.stop) && treeB md ops z t ((setAll listed qs).setIfInBounds e true)
  | .two qs e t f u, listed => quietB md ops z qs listed && (Region.ready md ops (setAll listed qs) == [e, f]) && (e != z || t.stop) && (f != z || u.stop) && decide (t.len = u.len) &&
      treeB md ops z t ((setAll listed qs).setIfInBounds e true) && treeB md ops z u ((setAll listed qs).setIfInBounds f true)
/-- Behind an effect the condition may be made narrower. -/
def wpTree (P : Program) (ops : Array Oper) (z : Nat) (Q : Exit → Act → World → Prop) : Tree → (World → Prop) → Act → World → Prop
  | .fin qs, S, a, w => wpQuiet P ops (fun w' => ∃ i : SW S, w' = sw i) (fun a' => Q .normal a' w) (opsAt ops qs) a
  | .one qs e t, S, a, w => wpQuiet P ops (fun w' => ∃ i : SW S, w' = sw i) (fun a' => wpEff P ops z S Q e (fun a'' w'' => ∃ S' : World → Prop, (∀ v, S' v → S v) ∧ ((e != z) = true → S' w'') ∧ wpTree P ops z Q t S' a'' w'') a' w) (opsAt ops qs) a
  | .two qs e t f u, S, a, w => wpQuiet P ops (fun w' => ∃ i : SW S, w' = sw i) (fun a' => wpEff P ops z S Q e (fun a'' w'' => ∃ S' : World → Prop, (∀ v, S' v → S v) ∧ ((e != z) = true → S' w'') ∧ wpTree P ops z Q t S' a'' w'') a' w ∧ wpEff P ops z S Q f (fun a'' w'' => ∃ S' : World → Prop, (∀ v, S' v → S v) ∧ ((f != z) = true → S' w'') ∧ wpTree P ops z Q u S' a'' w'') a' w) (opsAt ops qs) a

section
variable {P : Program} {md : Region.Mode} {ops : Array Oper} {Q : Exit → Act → World → Prop}
theorem wpAnyZ_mono {S S' : World → Prop} {z : Nat} (h : ∀ v, S' v → S v) : ∀ (fuel : Nat) (listed : Array Bool) (a : Act) (w : World), wpAnyZ P md ops Q S' z fuel listed a w → wpAnyZ P md ops Q S z fuel listed a w
  | 0, _, _, _, h0 => h0
  | fuel + 1, _, _, _, h0 => ⟨h0.1, fun i hi => wpOp_mono (fun a' w' h' => ⟨fun hz => h _ (h'.1 hz), wpAnyZ_mono h fuel _ a' w' h'.2⟩) (h0.2 i hi)⟩
theorem tree_sound {z : Nat} (hs : Region.noSelect ops = true) (hQ : ∀ c a a' w, Q (.panic c) a w → Q (.panic c) a' w) :
    ∀ (tr : Tree) (S : World → Prop) (fuel : Nat) (listed : Array Bool) (a : Act) (w : World), treeB md ops z tr listed = true → (S w ∨ tr.stop = true) → wpTree P ops z Q tr S a w →
      wpAnyZ P md ops Q S z (fuel + tr.len) listed a w
  | .fin qs, S, fuel, listed, a, w, hB, hS, h => by
    simp only [treeB, Bool.and_eq_true, List.isEmpty_iff] at hB
    unfold wpTree at h
    rcases hS with hS | hf
    · exact quiet_sound hs hQ w hS _ fuel qs listed a hB.1 h fun a' ha' => wpAnyZ_done hB.2 ha' fuel
    · cases qs with
      | nil => exact wpAnyZ_done hB.2 h fuel
      | cons q qs => simp [Tree.stop] at hf
  | .one qs e t, S, fuel, listed, a, w, hB, hS, h => by
    simp only [treeB, Bool.and_eq_true, beq_iff_eq, Bool.or_eq_true] at hB
    unfold wpTree at h
    have hS1 : S w := hS.resolve_right (by simp [Tree.stop])
    have hlen : fuel + (Tree.one qs e t).len = (fuel + t.len + 1) + qs.length := by simp only [Tree.len]; omega
    rw [hlen]
    refine quiet_sound hs hQ w hS1 _ _ qs listed a hB.1.1.1 h fun a' ha' => ?_
    refine wpAnyZ_all hB.1.1.2 (by simp) fun i hi => ?_
    simp only [List.mem_singleton] at hi
    subst hi
    refine wpOp_of_eff ha' fun a'' w'' hS'' h'' => ?_
    obtain ⟨S', hsub, hS', h3⟩ := h''
    refine wpAnyZ_mono hsub _ _ _ _ (tree_sound hs hQ t S' fuel _ a'' w'' hB.2 ?_ h3)
    rcases hB.1.2 with he | he
    · exact .inl (hS' (by simpa using he))
    · exact .inr he
  | .two qs e t f u, S, fuel, listed, a, w, hB, hS, h => by
    simp only [treeB, Bool.and_eq_true, beq_iff_eq, Bool.or_eq_true, decide_eq_true_eq] at hB
    obtain ⟨⟨⟨⟨⟨⟨hq, hr⟩, he⟩, hf⟩, hl⟩, h1⟩, h2⟩ := hB
    unfold wpTree at h
    have hS1 : S w := hS.resolve_right (by simp [Tree.stop])
    have hlen : fuel + (Tree.two qs e t f u).len = (fuel + t.len + 1) + qs.length := by simp only [Tree.len]; omega
    rw [hlen]
    refine quiet_sound hs hQ w hS1 _ _ qs listed a hq h fun a' ha' => ?_
    refine wpAnyZ_all hr (by simp) fun i hi => ?_
    simp only [List.mem_cons, List.not_mem_nil, or_false] at hi
    rcases hi with rfl | rfl
    · refine wpOp_of_eff ha'.1 fun a'' w'' hS'' h'' => ?_
      obtain ⟨S', hsub, hS', h3⟩ := h''
      refine wpAnyZ_mono hsub _ _ _ _ (tree_sound hs hQ t S' fuel _ a'' w'' h1 ?_ h3)
      rcases he with he | he
      · exact .inl (hS' (by simpa using he))
      · exact .inr he
    · rw [hl]
      refine wpOp_of_eff ha'.2 fun a'' w'' hS'' h'' => ?_
      obtain ⟨S', hsub, hS', h3⟩ := h''
      refine wpAnyZ_mono hsub _ _ _ _ (tree_sound hs hQ u S' fuel _ a'' w'' h2 ?_ h3)
      rcases hf with he | he
      · exact .inl (hS' (by simpa using he))
      · exact .inr he
end

def treeOk (ops : Array Oper) (z : Option Nat) (t : Tree) : Bool :=
  Region.noSelect ops && treeB .any ops (z.getD ops.size) t (Array.replicate ops.size false) && decide (t.len = ops.size)

theorem wp_region_tree {P : Program} {id : Nat} {Q : Exit → Act → World → Prop} {a : Act} {w : World} {l : List Oper} (S : World → Prop) (z : Option Nat) (t : Tree)
    (hm : P.follows .mixedOrders = true) (hB : treeOk l.toArray z t = true) (hS : S (w.drewN 1)) (h : Nonempty (SW S) → wpTree P l.toArray (z.getD l.toArray.size) (NoPan Q) t S a (w.drewN 1)) : (Code.region id l.toArray true).wp P Q a w := by
  simp only [treeOk, Bool.and_eq_true, decide_eq_true_eq] at hB
  have h1 : (Code.region id l.toArray true).wp P (NoPan Q) a w := by
    refine wp_region_any hm (wpAny_of_Z (S := S) (z := z.getD l.toArray.size) _ _ _ _ ?_)
    have := tree_sound (md := .any) (Q := NoPan Q) hB.1.1 (fun c a a' w h => h.elim) t S 0 _ a (w.drewN 1) hB.1.2 (.inl hS) (h ⟨⟨_, hS⟩⟩)
    rw [Nat.zero_add, hB.2] at this
    exact this
  refine Code.wp_mono (fun e a w h => ?_) h1
  cases e <;> first | exact h | exact (h : False).elim
end Go.Proofs.Ytkmeaipfafooaaa
