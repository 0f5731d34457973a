/- Words for rows of the call's own that lie beside one another. No condition. -/
import Derived.Test.YtkmeaipfafooaaaLib
namespace Go.Proofs.Ytkmeaipfafooaaa
open Go.RowKit

section
variable {w w' wx wy : World} {base bx by_ : Nat} {E E' : TypeId} {s s' n m : Nat} {v vx vy : Value} {xs ys : List Value}
theorem own_keep (h : w.ownsRow base E s v n xs) (hb : Below w.heap.size w w') : w'.ownsRow base E s v n xs := by
  refine h.kept (row := none) ⟨hb.os, hb.tape, hb.output, hb.size, fun k hk _ => hb.block k hk⟩ ?_
  cases hv : v.ownBlock <;> simp
/-- What was made later is no part of what was made before. -/
theorem own_apart (hx : wx.ownsRow bx E s vx n xs) (hy : wy.ownsRow by_ E' s' vy m ys) (h : wx.heap.size ≤ by_) : (vx.ownBlock = none ∨ vx.ownBlock ≠ vy.ownBlock) ∧ (vy.ownBlock = none ∨ vy.ownBlock ≠ vx.ownBlock) := by
  cases h1 : vx.ownBlock with
  | none => exact ⟨.inl rfl, by cases h2 : vy.ownBlock <;> simp⟩
  | some i =>
    cases h2 : vy.ownBlock with
    | none => exact ⟨.inr (by simp), .inl rfl⟩
    | some j =>
      have := (hx.lt i h1).2
      have := (hy.lt j h2).1
      exact ⟨.inr (by simp; omega), .inr (by simp; omega)⟩
/-- A row of the call's own is written: what was there before the call stands. -/
theorem below_mark {W : World} (hb : Below W.heap.size W w) (ho : w.ownsRow base E s v n xs) (hg : w.grownBy w' v.ownBlock) (hB : W.heap.size ≤ base) : Below W.heap.size W w' :=
  hb.grown hg hb.size fun k hk => by have := (ho.lt k hk).1; omega
end

theorem results_tmp4 {fn : Func} {t u v x : Tmp} (h : fn.results = #[.tmp t, .tmp u, .tmp v, .tmp x]) (tmps : Array Value) (P : Program) (w : World) :
    (results fn tmps).run P w = .ok (.tuple #[tmps.getD t undef, tmps.getD u undef, tmps.getD v undef, tmps.getD x undef]) w := by
  simp [results, h]
/-- An operation that waits for a guard which has struck is carried out as one without a guard. -/
theorem wpList_unguard {P : Program} {ops : Array Oper} {Q : Exit → Act → World → Prop} {a : Act} {w : World} {rest : List Oper} {o : Oper} (hw : Region.wanted o (yielded ops a.tmps) = true)
    (h : wpList P ops Q ({ o with guard := none } :: rest) a w) : wpList P ops Q (o :: rest) a w := by
  have e : wpList P ops Q ({ o with guard := none } :: rest) a w = (if Region.wanted { o with guard := none } (yielded ops a.tmps) = true then o.wp P a w (wpList P ops Q rest) Q ∨ (o.asks P a w ∧ LetsOut Q) else wpList P ops Q rest (a.put o.dst undef) w) := rfl
  have e3 : Region.wanted { o with guard := none } (yielded ops a.tmps) = true := rfl
  rw [e, if_pos e3] at h
  have e2 : wpList P ops Q (o :: rest) a w = (if Region.wanted o (yielded ops a.tmps) = true then o.wp P a w (wpList P ops Q rest) Q ∨ (o.asks P a w ∧ LetsOut Q) else wpList P ops Q rest (a.put o.dst undef) w) := rfl
  rw [e2, if_pos hw]
  exact h

end Go.Proofs.Ytkmeaipfafooaaa
