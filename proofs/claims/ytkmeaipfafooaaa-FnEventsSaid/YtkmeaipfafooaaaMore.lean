/- More words for memory: what a slice of a slice reads; how long an owned slice may be. No condition. -/
import Derived.Test.YtkmeaipfafooaaaLib
namespace Go.Proofs.Ytkmeaipfafooaaa
open Go.RowKit
variable {w : World} {B : Nat} {A : Option Addr} {l : List (Int × Int)} {m : List Int} {kd : IntKind}
theorem own_cap {base size : Nat} {e : TypeId} {c n : Nat} {xs : List Value} (h : w.ownsRow base e size (.slice A n c) n xs) : n ≤ c := by
  rcases h.2 with ⟨hv, rfl⟩ | ⟨g, cap, cur, hv, _, _, hc, _⟩
  · omega
  · injection hv with _ _ h3; omega
theorem Rd.take (h : Rd w B A l) (j : Nat) : Rd w B A (l.take j) := fun hl => by
  have hl' : 0 < j ∧ 0 < l.length := by rw [List.length_take] at hl; omega
  obtain ⟨b, o, rfl, hB, hc⟩ := h hl'.2
  refine ⟨b, o, rfl, hB, fun k hk => ?_⟩
  rw [List.length_take] at hk
  have e1 : fA (l.take j) k = fA l k := by rw [fA_lt (by rw [List.length_take]; omega), fA_lt (by omega)]; simp
  have e2 : fB (l.take j) k = fB l k := by rw [fB_lt (by rw [List.length_take]; omega), fB_lt (by omega)]; simp
  rw [e1, e2]
  exact hc k (by omega)
/-- The address of the element j of a slice of pairs. -/
def at2 (A : Option Addr) (j : Nat) : Option Addr := A.map fun p => ⟨p.block, p.off + j * 2, none⟩
theorem Rd.drop (h : Rd w B A l) (j : Nat) : Rd w B (at2 A j) (l.drop j) := fun hl => by
  rw [List.length_drop] at hl
  obtain ⟨b, o, rfl, hB, hc⟩ := h (by omega)
  refine ⟨b, o + j * 2, rfl, hB, fun k hk => ?_⟩
  rw [List.length_drop] at hk
  have e1 : fA (l.drop j) k = fA l (j + k) := by rw [fA_lt (by rw [List.length_drop]; omega), fA_lt (by omega)]; simp
  have e2 : fB (l.drop j) k = fB l (j + k) := by rw [fB_lt (by rw [List.length_drop]; omega), fB_lt (by omega)]; simp
  rw [e1, e2, show o + j * 2 + k * 2 = o + (j + k) * 2 by omega]
  exact hc (j + k) (by omega)
theorem RdI.take (h : RdI w B kd A m) (j : Nat) : RdI w B kd A (m.take j) := fun hl => by
  have hl' : 0 < j ∧ 0 < m.length := by rw [List.length_take] at hl; omega
  obtain ⟨b, o, rfl, hB, hc⟩ := h hl'.2
  refine ⟨b, o, rfl, hB, fun k hk => ?_⟩
  rw [List.length_take] at hk
  have e1 : gI (m.take j) k = gI m k := by rw [gI_lt (by rw [List.length_take]; omega), gI_lt (by omega)]; simp
  rw [e1]
  exact hc k (by omega)
/-- What 'x[j:]' of a slice of pairs reads. -/
theorem Rd.from (h : Rd w B A l) (c j : Nat) (hc : l.length ≤ c) : Rd w B (if c = j then A else A.map (·.add (j * 2))) (l.drop j) := fun hl => by
  rw [List.length_drop] at hl
  rw [if_neg (by omega)]
  obtain ⟨b, o, e, hB, hcs⟩ := h.drop j (by rw [List.length_drop]; omega)
  refine ⟨b, o, ?_, hB, hcs⟩
  obtain ⟨b', o', rfl, _, _⟩ := h (by omega)
  have hadd : (⟨b', o', none⟩ : Addr).add (j * 2) = ⟨b', o' + j * 2, none⟩ := by unfold Addr.add; split <;> simp_all
  rw [Option.map_some, hadd]; exact e
theorem RdI.drop (h : RdI w B kd A m) (j : Nat) : RdI w B kd (A.map fun p => ⟨p.block, p.off + j, none⟩) (m.drop j) := fun hl => by
  rw [List.length_drop] at hl
  obtain ⟨b, o, rfl, hB, hc⟩ := h (by omega)
  refine ⟨b, o + j, rfl, hB, fun k hk => ?_⟩
  rw [List.length_drop] at hk
  have e1 : gI (m.drop j) k = gI m (j + k) := by rw [gI_lt (by rw [List.length_drop]; omega), gI_lt (by omega)]; simp
  rw [e1, Nat.add_assoc]
  exact hc (j + k) (by omega)
/-- What 'x[j:]' of a slice of integers reads. -/
theorem RdI.from (h : RdI w B kd A m) (c j : Nat) (hc : m.length ≤ c) : RdI w B kd (if c = j then A else A.map (·.add j)) (m.drop j) := fun hl => by
  rw [List.length_drop] at hl
  rw [if_neg (by omega)]
  obtain ⟨b, o, e, hB, hcs⟩ := h.drop j (by rw [List.length_drop]; omega)
  refine ⟨b, o, ?_, hB, hcs⟩
  obtain ⟨b', o', rfl, _, _⟩ := h (by omega)
  have hadd : (⟨b', o', none⟩ : Addr).add j = ⟨b', o' + j, none⟩ := by unfold Addr.add; split <;> simp_all
  rw [Option.map_some, hadd]; exact e
theorem run_append_nothing {P : Program} {base size n : Nat} {e t ty : TypeId} {v : Value} {c : Nat} {xs : List Value} (h : w.ownsRow base e size v n xs) (i : TypeInfo) (ht : P.underlying t = some (.slice e)) (hi : P.info? e = some i) :
    (Builtin.append_ #[t, t] ty #[v, .slice none 0 c]).run P w = .ok v w := by
  rcases h.2 with ⟨rfl, rfl⟩ | ⟨g, cap, cur, rfl, _, _, hc, _⟩
  · simp [Builtin.append_, run_underlying ht, sizeOf, typeInfo, hi, Builtin.lenOf, Builtin.firstCells]
  · simp [Builtin.append_, run_underlying ht, sizeOf, typeInfo, hi, Builtin.lenOf, Builtin.firstCells, storeCells, hc]
/-- 'append(v, x...)' of all pairs of a slice that can be read. -/
theorem wpList_appMany2 {P : Program} {ops : Array Oper} {rest : List Oper} {o : Oper} {a : Act} {Q : Exit → Act → World → Prop} (hgd : o.guard = none) (s xo : Operand) (t : TypeId)
    (ho : o.op = .call { callee := .builtin .append, args := #[s, xo], argTypes := #[t, t] }) {B D : Nat} {wr : World} {E : TypeId} {v : Value} {l m : List (Int × Int)} {A : Option Addr} {c : Nat}
    (ht : P.underlying t = some (.slice E)) (hE : (P.info? E).map (fun i => (i.zero, i.size, i.bytes)) = some (some (.agg #[.int .i64 0, .int .i64 0]), 2, 16))
    (hs : a.eval s = v) (h : wr.ownsRow B E 2 v l.length (cells2 l)) (hB : B ≤ wr.heap.size) (hx : a.eval xo = .slice A m.length c) (hr : Rd wr D A m) (hn : l.length + m.length ≤ 4294967296)
    (hK : ∀ v' w', w'.ownsRow B E 2 v' (l ++ m).length (cells2 (l ++ m)) → wr.grownBy w' v.ownBlock → (v'.ownBlock = v.ownBlock ∨ v'.ownBlock = some wr.heap.size) →
      wpList P ops Q rest (a.put o.dst v') w') : wpList P ops Q (o :: rest) a wr := by
  obtain ⟨i, hi, hz0, hz1, hz2⟩ := info_parts hE
  cases A with
  | none =>
    have hm : m = [] := by
      cases m with
      | nil => rfl
      | cons p m => obtain ⟨b, o, e, _⟩ := hr (by simp); cases e
    subst hm
    refine wpList_plain hgd fun K hK' => ?_
    have hrun := run_append_nothing (P := P) (ty := o.type) (c := c) h i ht hi
    unfold Oper.wp execOp
    simp only [ho, resolve, invoke, builtin, Sem.run_bind, Sem.run_pure, Result.andThen_ok, List.map_toArray, List.map_cons, List.map_nil, hs, hx, List.length_nil, hrun]
    exact hK' _ _ (hK v wr (by simpa using h) ⟨rfl, rfl, rfl, Nat.le_refl _, fun _ _ _ => rfl⟩ (Or.inl rfl))
  | some ad =>
    refine wpList_append_own_at _ hgd s xo t ho B E i _ 2 16 ht hi hz0 hz1 hz2 rfl (by omega) v l.length (cells2 l) hs h ad m.length c (cells2 m) hx (length_cells2 m) ?_ (cells2_one m) (by unfold maxLen; omega) (by omega) hB ?_
    · intro j u hu
      have hj : j < m.length * 2 := by
        rcases Nat.lt_or_ge j (m.length * 2) with h | h
        · exact h
        · rw [List.getElem?_eq_none (by rw [length_cells2]; exact h)] at hu; cases hu
      obtain ⟨b, o', e, _, hcs⟩ := hr (by omega)
      injection e with e
      subst e
      have e1 := cells2_get m (j / 2) (by omega)
      have e2 := hcs (j / 2) (by omega)
      have hadd : (⟨b, o', none⟩ : Addr).add j = ⟨b, o' + j, none⟩ := by unfold Addr.add; split <;> simp_all
      rw [hadd]
      rcases Nat.mod_two_eq_zero_or_one j with hm | hm
      · have hj2 : j / 2 * 2 = j := by omega
        rw [hj2] at e1 e2
        rw [e1.1] at hu
        rw [e2.1]; exact hu
      · have hj2 : j / 2 * 2 + 1 = j := by omega
        rw [hj2] at e1
        rw [show o' + j / 2 * 2 + 1 = o' + j by omega] at e2
        rw [e1.2] at hu
        rw [e2.2]; exact hu
    · intro v' w' hown hg _ hat
      refine hK v' w' ?_ hg hat
      rw [cells2_append, List.length_append]
      exact hown
end Go.Proofs.Ytkmeaipfafooaaa
