/- More words for lists of integers: appending a whole list, one place written. No condition. -/
import Derived.Test.YtihkdbgnoncgnaaInts
import Derived.Test.YtihkdbgnoncgnaaMore
namespace Go.Proofs.Ytihkdbgnoncgnaa
open Go.RowKit
/-- 'append(v, x...)' of all integers of a slice that can be read. -/
theorem wpList_appMany1 {P : Program} {ops : Array Oper} {rest : List Oper} {o : Oper} {a : Act} {Q : Exit → Act → World → Prop} (hgd : o.guard = none) (s xo : Operand) (t : TypeId)
    (ho : o.op = .call { callee := .builtin .append, args := #[s, xo], argTypes := #[t, t] }) {B D : Nat} {w : World} {E : TypeId} {v : Value} {l m : List Int} {A : Option Addr} {c : Nat}
    (ht : P.underlying t = some (.slice E)) (hE : (P.info? E).map (fun i => (i.zero, i.size, i.bytes)) = some (some (.int .i64 0), 1, 8))
    (hs : a.eval s = v) (h : w.ownsRow B E 1 v l.length (cells1 .i64 l)) (hB : B ≤ w.heap.size) (hx : a.eval xo = .slice A m.length c) (hr : RdI w D .i64 A m) (hn : l.length + m.length ≤ 4294967296)
    (hK : ∀ v' w', w'.ownsRow B E 1 v' (l ++ m).length (cells1 .i64 (l ++ m)) → w.grownBy w' v.ownBlock → (v'.ownBlock = v.ownBlock ∨ v'.ownBlock = some w.heap.size) →
      wpList P ops Q rest (a.put o.dst v') w') : wpList P ops Q (o :: rest) a w := by
  obtain ⟨i, hi, hz0, hz1, hz2⟩ := info_parts hE
  cases A with
  | none =>
    have hm : m = [] := by
      cases m with
      | nil => rfl
      | cons p m => obtain ⟨b, o, e, _⟩ := hr (by simp); cases e
    subst hm
    refine wpList_plain hgd fun K hK' => ?_
    have hrun := run_append_nothing (P := P) (ty := o.type) (c := c) h i ht hi
    unfold Oper.wp execOp
    simp only [ho, resolve, invoke, builtin, Sem.run_bind, Sem.run_pure, Result.andThen_ok, List.map_toArray, List.map_cons, List.map_nil, hs, hx, List.length_nil, hrun]
    exact hK' _ _ (hK v w (by simpa using h) ⟨rfl, rfl, rfl, Nat.le_refl _, fun _ _ _ => rfl⟩ (Or.inl rfl))
  | some ad =>
    refine wpList_append_own_at _ hgd s xo t ho B E i _ 1 8 ht hi hz0 hz1 hz2 rfl (by omega) v l.length (cells1 .i64 l) hs h ad m.length c (cells1 .i64 m) hx (by rw [length_cells1, Nat.mul_one]) ?_ (cells1_one .i64 m) (by unfold maxLen; omega) (by omega) hB ?_
    · intro j u hu
      have hj : j < m.length := by
        rcases Nat.lt_or_ge j m.length with h | h
        · exact h
        · rw [List.getElem?_eq_none (by rw [length_cells1]; exact h)] at hu; cases hu
      obtain ⟨b, o', e, _, hcs⟩ := hr (by omega)
      injection e with e
      subst e
      have e2 := hcs j hj
      have hadd : (⟨b, o', none⟩ : Addr).add j = ⟨b, o' + j, none⟩ := by unfold Addr.add; split <;> simp_all
      rw [hadd, e2, ← hu, cells1_get _ _ _ hj]
    · intro v' w' hown hg _ hat
      refine hK v' w' ?_ hg hat
      rw [cells1_append, List.length_append]
      exact hown
theorem RdI.of_own' {w : World} {base n : Nat} {e : TypeId} {c : Nat} {A : Option Addr} {m : List Int} {kd : IntKind} (h : w.ownsRow base e 1 (.slice A n c) n (cells1 kd m)) (hn : m.length = n) : RdI w w.heap.size kd A m := by
  subst hn; exact RdI.of_own h
theorem row_one (w : World) (n : Nat) (t : TypeId) : Row (w.alloc (.cells (madeCells #[.int .i64 0] n) t)) w.heap.size t n (fun _ => .int .i64 0) := by
  refine ⟨_, heap_alloc_new _ _, by rw [size_madeCells]; exact Nat.le_refl _, fun i hi => ?_⟩
  simp [madeCells, hi, Nat.mod_one]
end Go.Proofs.Ytihkdbgnoncgnaa
