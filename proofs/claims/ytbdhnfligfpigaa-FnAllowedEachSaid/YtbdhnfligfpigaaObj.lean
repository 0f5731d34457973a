/- Words for rows of the call's own that lie beside one another. No condition. -/
import Derived.Test.YtbdhnfligfpigaaLib
namespace Go.Proofs.Ytbdhnfligfpigaa
open Go.RowKit

section
variable {w w' wx wy : World} {base bx by_ : Nat} {E E' : TypeId} {s s' n m : Nat} {v vx vy : Value} {xs ys : List Value}
theorem own_keep (h : w.ownsRow base E s v n xs) (hb : Below w.heap.size w w') : w'.ownsRow base E s v n xs := by
  refine h.kept (row := none) ⟨hb.os, hb.tape, hb.output, hb.size, fun k hk _ => hb.block k hk⟩ ?_
  cases hv : v.ownBlock <;> simp
/-- What was made later is no part of what was made before. -/
theorem own_apart (hx : wx.ownsRow bx E s vx n xs) (hy : wy.ownsRow by_ E' s' vy m ys) (h : wx.heap.size ≤ by_) : (vx.ownBlock = none ∨ vx.ownBlock ≠ vy.ownBlock) ∧ (vy.ownBlock = none ∨ vy.ownBlock ≠ vx.ownBlock) := by
  cases h1 : vx.ownBlock with
  | none => exact ⟨.inl rfl, by cases h2 : vy.ownBlock <;> simp⟩
  | some i =>
    cases h2 : vy.ownBlock with
    | none => exact ⟨.inr (by simp), .inl rfl⟩
    | some j =>
      have := (hx.lt i h1).2
      have := (hy.lt j h2).1
      exact ⟨.inr (by simp; omega), .inr (by simp; omega)⟩
/-- A row of the call's own is written: what was there before the call stands. -/
theorem below_mark {W : World} (hb : Below W.heap.size W w) (ho : w.ownsRow base E s v n xs) (hg : w.grownBy w' v.ownBlock) (hB : W.heap.size ≤ base) : Below W.heap.size W w' :=
  hb.grown hg hb.size fun k hk => by have := (ho.lt k hk).1; omega
end

theorem results_tmp4 {fn : Func} {t u v x : Tmp} (h : fn.results = #[.tmp t, .tmp u, .tmp v, .tmp x]) (tmps : Array Value) (P : Program) (w : World) :
    (results fn tmps).run P w = .ok (.tuple #[tmps.getD t undef, tmps.getD u undef, tmps.getD v undef, tmps.getD x undef]) w := by
  simp [results, h]

end Go.Proofs.Ytbdhnfligfpigaa
