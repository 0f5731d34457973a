/- Words for memory that all proofs of this seat share: slices of pairs and of integers, rows of the call's own, regions whose operations only read what was there before. No condition. -/
import Derived.WalkKit
import Derived.WalkSpells
import Derived.WalkLawsBesides
import Derived.BigQuiet
import Derived.Deep.OwnRows
import Derived.Deep.AppendLies
import Derived.Maps.AppendAt
import Derived.StillTail
import Derived.Lib.Hide
namespace Go.Proofs.Ytkmeaipfafooaaa
open Go.RowKit

/-! ## lists -/
def fA (l : List (Int × Int)) (k : Nat) : Int := (l.getD k (0, 0)).1
def fB (l : List (Int × Int)) (k : Nat) : Int := (l.getD k (0, 0)).2
def gI (l : List Int) (k : Nat) : Int := l.getD k 0
def cells2 (l : List (Int × Int)) : List Value := l.flatMap fun p => [.int .i64 p.1, .int .i64 p.2]
def cells1 (kd : IntKind) (l : List Int) : List Value := l.map (Value.int kd)

theorem fA_lt {l : List (Int × Int)} {k : Nat} (h : k < l.length) : fA l k = l[k].1 := by simp [fA, h]
theorem fB_lt {l : List (Int × Int)} {k : Nat} (h : k < l.length) : fB l k = l[k].2 := by simp [fB, h]
theorem gI_lt {l : List Int} {k : Nat} (h : k < l.length) : gI l k = l[k] := by simp [gI, h]

theorem length_cells2 (l : List (Int × Int)) : (cells2 l).length = l.length * 2 := by
  induction l with
  | nil => rfl
  | cons p l ih => simp only [cells2, List.flatMap_cons, List.length_append, List.length_cons, List.length_nil] at *; omega
theorem cells2_append (l m : List (Int × Int)) : cells2 (l ++ m) = cells2 l ++ cells2 m := by simp [cells2]
theorem cells2_get (l : List (Int × Int)) (k : Nat) (h : k < l.length) :
    (cells2 l)[k * 2]? = some (.int .i64 (fA l k)) ∧ (cells2 l)[k * 2 + 1]? = some (.int .i64 (fB l k)) := by
  induction l generalizing k with
  | nil => simp at h
  | cons p l ih =>
    cases k with
    | zero => simp [cells2, fA, fB]
    | succ k =>
      have := ih k (by simpa using h)
      have e : (k + 1) * 2 = k * 2 + 1 + 1 := by omega
      simpa [cells2, fA, fB, e] using this
theorem cells2_one (l : List (Int × Int)) : ∀ u ∈ cells2 l, u.oneCell' = true := by
  intro u hu
  simp only [cells2, List.mem_flatMap] at hu
  obtain ⟨p, _, hu⟩ := hu
  simp only [List.mem_cons, List.not_mem_nil, or_false] at hu
  rcases hu with rfl | rfl <;> rfl
theorem length_cells1 (kd : IntKind) (l : List Int) : (cells1 kd l).length = l.length := by simp [cells1]
theorem cells1_append (kd : IntKind) (l m : List Int) : cells1 kd (l ++ m) = cells1 kd l ++ cells1 kd m := by simp [cells1]
theorem cells1_get (kd : IntKind) (l : List Int) (k : Nat) (h : k < l.length) : (cells1 kd l)[k]? = some (.int kd (gI l k)) := by
  simp [cells1, gI, h]
theorem cells1_one (kd : IntKind) (l : List Int) : ∀ u ∈ cells1 kd l, u.oneCell' = true := by
  intro u hu
  simp only [cells1, List.mem_map] at hu
  obtain ⟨p, _, rfl⟩ := hu
  rfl

theorem ret_bool {a b : Bool} (h : a = b) : Ending.returned (.bool a) = .returned (.bool b) := by rw [h]
theorem ret_int {k : IntKind} {a b : Int} (h : a = b) : Ending.returned (.int k a) = .returned (.int k b) := by rw [h]

def sameAt (x y x' y' : Int) : Bool := (x == x') && (y == y')
def eqTo (l m : List (Int × Int)) (k : Nat) : Prop := ∀ j, j < k → fA l j = fA m j ∧ fB l j = fB m j
theorem eqTo_zero (l m : List (Int × Int)) : eqTo l m 0 := fun j hj => absurd hj (by omega)
theorem eqTo_succ {l m : List (Int × Int)} {k : Nat} (h : eqTo l m k) (hs : sameAt (fA l k) (fB l k) (fA m k) (fB m k) = true) : eqTo l m (k + 1) := by
  intro j hj
  by_cases e : j = k
  · subst e; simpa [sameAt] using hs
  · exact h j (by omega)
theorem eq_of_eqTo {l m : List (Int × Int)} (hl : l.length = m.length) (h : eqTo l m l.length) : l = m := by
  apply List.ext_getElem hl
  intro j h1 h2
  have := h j h1
  rw [fA_lt h1, fA_lt h2, fB_lt h1, fB_lt h2] at this
  exact Prod.ext this.1 this.2
theorem ne_of_not {l m : List (Int × Int)} {k : Nat} (hs : sameAt (fA l k) (fB l k) (fA m k) (fB m k) = false) : l ≠ m := by
  rintro rfl
  simp [sameAt] at hs

/-- The marks that a test lays into a list of pairs. -/
def mkL (k : Int) (n : Nat) : List (Int × Int) := (List.range n).map fun (i : Nat) => (k + 2 * (i : Int), k + 2 * (i : Int) + 1)
theorem length_mkL (k : Int) (n : Nat) : (mkL k n).length = n := by simp [mkL]
theorem fA_mkL (k : Int) (n i : Nat) (h : i < n) : fA (mkL k n) i = k + 2 * i := by rw [fA_lt (by rw [length_mkL]; exact h)]; simp [mkL]
theorem fB_mkL (k : Int) (n i : Nat) (h : i < n) : fB (mkL k n) i = k + 2 * i + 1 := by rw [fB_lt (by rw [length_mkL]; exact h)]; simp [mkL]
def mkI (k : Int) (n : Nat) : List Int := (List.range n).map fun (i : Nat) => k + (i : Int)
theorem length_mkI (k : Int) (n : Nat) : (mkI k n).length = n := by simp [mkI]
theorem gI_mkI (k : Int) (n i : Nat) (h : i < n) : gI (mkI k n) i = k + i := by rw [gI_lt (by rw [length_mkI]; exact h)]; simp [mkI]

/-! ## draws -/
theorem below_drewN {B : Nat} {a w : World} (h : Below B a w) (n : Nat) : Below B a (w.drewN n) := ⟨h.os, h.tape, h.output, h.size, h.block⟩
theorem quiet_left {P : Program} {f : FuncId} {args : Array Value} {w : World} {n : Nat} {v : Value}
    (h : Calls P f args (w.drewN n) fun e w' => e = .returned v ∧ w.drewN n = w') : Calls P f args (w.drewN n) fun e w'' => e = .returned v ∧ ∃ m, w'' = w.drewN m :=
  h.mono fun _ _ ⟨he, hm⟩ => ⟨he, n, hm.symm⟩

/-! ## a slice that reads as a list -/
/-- '.slice A l.length c', pairs, below block B. -/
def Rd (w : World) (B : Nat) (A : Option Addr) (l : List (Int × Int)) : Prop :=
  0 < l.length → ∃ b o, A = some ⟨b, o, none⟩ ∧ b < B ∧ ∀ k, k < l.length → w.cell? ⟨b, o + k * 2, none⟩ = some (.int .i64 (fA l k)) ∧ w.cell? ⟨b, o + k * 2 + 1, none⟩ = some (.int .i64 (fB l k))
/-- '.slice A l.length c', integers of one kind, below block B. -/
def RdI (w : World) (B : Nat) (kd : IntKind) (A : Option Addr) (l : List Int) : Prop :=
  0 < l.length → ∃ b o, A = some ⟨b, o, none⟩ ∧ b < B ∧ ∀ k, k < l.length → w.cell? ⟨b, o + k, none⟩ = some (.int kd (gI l k))

section
variable {w w' : World} {B B' : Nat} {A : Option Addr} {l : List (Int × Int)} {m : List Int} {kd : IntKind}
theorem Rd.nil_ : Rd w B A [] := fun h => absurd h (by simp)
theorem Rd.keep (h : Rd w B A l) (hk : ∀ p : Addr, p.block < B → w'.cell? p = w.cell? p) : Rd w' B A l := fun hl => by
  obtain ⟨b, o, rfl, hB, hc⟩ := h hl
  exact ⟨b, o, rfl, hB, fun k hkl => ⟨(hk ⟨b, _, none⟩ hB).trans (hc k hkl).1, (hk ⟨b, _, none⟩ hB).trans (hc k hkl).2⟩⟩
theorem Rd.more (h : Rd w B A l) (hB : B ≤ B') : Rd w B' A l := fun hl => by
  obtain ⟨b, o, rfl, hb, hc⟩ := h hl
  exact ⟨b, o, rfl, by omega, hc⟩
theorem Rd.below (h : Rd w B A l) (hb : Below B w w') : Rd w' B A l := h.keep fun _ hp => hb.cell hp
theorem Rd.to (h : Rd w w.heap.size A l) (hb : Below w.heap.size w w') : Rd w' w'.heap.size A l := (h.below hb).more hb.size
theorem Rd.grown (h : Rd w B A l) {row : Option Nat} (hg : w.grownBy w' row) (hB : B ≤ w.heap.size) (hr : ∀ g, row = some g → B ≤ g) : Rd w' B A l :=
  h.keep fun p hp => World.cell?_of_block (hg.block p.block (by omega) (fun e => by have := hr _ e.symm; omega))
theorem Rd.of_own {base : Nat} {e : TypeId} {c : Nat} (h : w.ownsRow base e 2 (.slice A l.length c) l.length (cells2 l)) : Rd w w.heap.size A l := fun hl => by
  obtain ⟨g, cap, hv, _, hlt⟩ := h.form hl
  have hA : A = some ⟨g, 0, none⟩ := by injection hv
  subst hA
  refine ⟨g, 0, rfl, hlt, fun k hk => ?_⟩
  have h1 := h.cells (g := g) rfl (k * 2) _ (cells2_get l k hk).1
  have h2 := h.cells (g := g) rfl (k * 2 + 1) _ (cells2_get l k hk).2
  have e : ∀ j, (⟨g, 0, none⟩ : Addr).add j = ⟨g, 0 + j, none⟩ := fun j => by unfold Addr.add; split <;> simp_all
  rw [e] at h1 h2
  exact ⟨h1, by rw [← Nat.add_assoc] at h2; exact h2⟩
theorem RdI.nil_ : RdI w B kd A [] := fun h => absurd h (by simp)
theorem RdI.keep (h : RdI w B kd A m) (hk : ∀ p : Addr, p.block < B → w'.cell? p = w.cell? p) : RdI w' B kd A m := fun hl => by
  obtain ⟨b, o, rfl, hB, hc⟩ := h hl
  exact ⟨b, o, rfl, hB, fun k hkl => (hk ⟨b, _, none⟩ hB).trans (hc k hkl)⟩
theorem RdI.more (h : RdI w B kd A m) (hB : B ≤ B') : RdI w B' kd A m := fun hl => by
  obtain ⟨b, o, rfl, hb, hc⟩ := h hl
  exact ⟨b, o, rfl, by omega, hc⟩
theorem RdI.below (h : RdI w B kd A m) (hb : Below B w w') : RdI w' B kd A m := h.keep fun _ hp => hb.cell hp
theorem RdI.to (h : RdI w w.heap.size kd A m) (hb : Below w.heap.size w w') : RdI w' w'.heap.size kd A m := (h.below hb).more hb.size
theorem RdI.grown (h : RdI w B kd A m) {row : Option Nat} (hg : w.grownBy w' row) (hB : B ≤ w.heap.size) (hr : ∀ g, row = some g → B ≤ g) : RdI w' B kd A m :=
  h.keep fun p hp => World.cell?_of_block (hg.block p.block (by omega) (fun e => by have := hr _ e.symm; omega))
theorem RdI.of_own {base : Nat} {e : TypeId} {c : Nat} (h : w.ownsRow base e 1 (.slice A m.length c) m.length (cells1 kd m)) : RdI w w.heap.size kd A m := fun hl => by
  obtain ⟨g, cap, hv, _, hlt⟩ := h.form hl
  have hA : A = some ⟨g, 0, none⟩ := by injection hv
  subst hA
  refine ⟨g, 0, rfl, hlt, fun k hk => ?_⟩
  have h1 := h.cells (g := g) rfl k _ (cells1_get kd m k hk)
  have e : ∀ j, (⟨g, 0, none⟩ : Addr).add j = ⟨g, 0 + j, none⟩ := fun j => by unfold Addr.add; split <;> simp_all
  rw [e] at h1
  exact h1
end

/-! ## a row of the call's own that grows by append -/
def Acc2 (w wr : World) (E : TypeId) (v : Value) (l : List (Int × Int)) : Prop := wr.ownsRow w.heap.size E 2 v l.length (cells2 l) ∧ Below w.heap.size w wr
def Acc1 (w wr : World) (E : TypeId) (kd : IntKind) (v : Value) (l : List Int) : Prop := wr.ownsRow w.heap.size E 1 v l.length (cells1 kd l) ∧ Below w.heap.size w wr

section
variable {w wr w' : World} {E : TypeId} {kd : IntKind} {v : Value} {l : List (Int × Int)} {m : List Int}
theorem own_shape {base size n : Nat} {xs : List Value} (h : w.ownsRow base E size v n xs) : ∃ A c, v = .slice A n c := by
  rcases h.2 with ⟨rfl, rfl⟩ | ⟨g, cap, cur, rfl, _⟩
  · exact ⟨none, 0, rfl⟩
  · exact ⟨_, cap, rfl⟩
theorem own_drewN {base size n : Nat} {xs : List Value} (h : w.ownsRow base E size v n xs) (k : Nat) : (w.drewN k).ownsRow base E size v n xs := h
theorem Acc2.start (w : World) (E : TypeId) : Acc2 w w E (.slice none 0 0) [] := ⟨World.ownsRow_nil _ _ _ _, Below.refl _ _⟩
theorem Acc2.alloc (h : Acc2 w wr E v l) (o : Obj) : Acc2 w (wr.alloc o) E v l := ⟨h.1.alloc o, h.2.alloc h.2.size o⟩
theorem Acc2.drewN (h : Acc2 w wr E v l) (n : Nat) : Acc2 w (wr.drewN n) E v l := ⟨h.1, below_drewN h.2 n⟩
theorem Acc2.below (h : Acc2 w wr E v l) (hb : Below wr.heap.size wr w') : Acc2 w w' E v l := by
  refine ⟨h.1.kept (row := none) ⟨hb.os, hb.tape, hb.output, hb.size, fun k hk _ => hb.block k hk⟩ ?_, h.2.trans (hb.mono h.2.size)⟩
  cases hv : v.ownBlock <;> simp
theorem Acc2.shape (h : Acc2 w wr E v l) : ∃ A c, v = .slice A l.length c := own_shape h.1
theorem Acc1.start (w : World) (E : TypeId) (kd : IntKind) : Acc1 w w E kd (.slice none 0 0) [] := ⟨World.ownsRow_nil _ _ _ _, Below.refl _ _⟩
theorem Acc1.alloc (h : Acc1 w wr E kd v m) (o : Obj) : Acc1 w (wr.alloc o) E kd v m := ⟨h.1.alloc o, h.2.alloc h.2.size o⟩
theorem Acc1.drewN (h : Acc1 w wr E kd v m) (n : Nat) : Acc1 w (wr.drewN n) E kd v m := ⟨h.1, below_drewN h.2 n⟩
theorem Acc1.below (h : Acc1 w wr E kd v m) (hb : Below wr.heap.size wr w') : Acc1 w w' E kd v m := by
  refine ⟨h.1.kept (row := none) ⟨hb.os, hb.tape, hb.output, hb.size, fun k hk _ => hb.block k hk⟩ ?_, h.2.trans (hb.mono h.2.size)⟩
  cases hv : v.ownBlock <;> simp
theorem Acc1.shape (h : Acc1 w wr E kd v m) : ∃ A c, v = .slice A m.length c := own_shape h.1
end

/-- 'append(out, T{..})' of one pair: the literal has just been laid. -/
theorem wpList_app2 {P : Program} {ops : Array Oper} {rest : List Oper} {o : Oper} {a : Act} {Q : Exit → Act → World → Prop} (hgd : o.guard = none) (s xo : Operand) (t : TypeId)
    (ho : o.op = .call { callee := .builtin .append, args := #[s, xo], argTypes := #[t, t] }) {w wr : World} {E : TypeId} {v : Value} {l : List (Int × Int)}
    (ht : P.underlying t = some (.slice E)) (hE : (P.info? E).map (fun i => (i.zero, i.size, i.bytes)) = some (some (.agg #[.int .i64 0, .int .i64 0]), 2, 16))
    (hs : a.eval s = v) (h : Acc2 w wr E v l) (g c : Nat) (x y : Int) (hg0 : wr.heap.size = g) (hx : a.eval xo = .slice (some ⟨g, 0, none⟩) 1 c) (hn : l.length + 1 ≤ 4294967296)
    (hK : ∀ v' w', Acc2 w w' E v' (l ++ [(x, y)]) → wpList P ops Q rest (a.put o.dst v') w') : wpList P ops Q (o :: rest) a (wr.alloc (.cells #[.int .i64 x, .int .i64 y] E)) := by
  obtain ⟨i, hi, hz0, hz1, hz2⟩ := info_parts hE
  subst hg0
  refine wpList_append_own _ hgd s xo t ho w.heap.size E i _ 2 16 ht hi hz0 hz1 hz2 rfl (by omega) v l.length (cells2 l) hs (h.1.alloc _) ⟨wr.heap.size, 0, none⟩ 1 c [.int .i64 x, .int .i64 y] hx rfl ?_ ?_ (by unfold maxLen; omega) (by omega)
    (h.alloc (.cells #[.int .i64 x, .int .i64 y] E)).2.size ?_
  · intro j u hu
    match j, hu with
    | 0, hu => simp at hu; subst hu; simp [Addr.add, World.cell?_alloc_new]
    | 1, hu => simp at hu; subst hu; simp [Addr.add, World.cell?_alloc_new]
  · intro u hu
    simp only [List.mem_cons, List.not_mem_nil, or_false] at hu
    rcases hu with rfl | rfl <;> rfl
  · intro v' w' hown hg _
    have ha := h.alloc (.cells #[.int .i64 x, .int .i64 y] E)
    refine hK v' w' ⟨?_, ha.2.grown hg ha.2.size fun k hk => (ha.1.lt k hk).1⟩
    have e : cells2 (l ++ [(x, y)]) = cells2 l ++ [.int .i64 x, .int .i64 y] := by rw [cells2_append]; rfl
    rw [e, List.length_append]
    exact hown
/-- 'append(out, T{..})' of one pair: and where the new slice lies. -/
theorem wpList_app2_at {P : Program} {ops : Array Oper} {rest : List Oper} {o : Oper} {a : Act} {Q : Exit → Act → World → Prop} (hgd : o.guard = none) (s xo : Operand) (t : TypeId)
    (ho : o.op = .call { callee := .builtin .append, args := #[s, xo], argTypes := #[t, t] }) {w wr : World} {E : TypeId} {v : Value} {l : List (Int × Int)}
    (ht : P.underlying t = some (.slice E)) (hE : (P.info? E).map (fun i => (i.zero, i.size, i.bytes)) = some (some (.agg #[.int .i64 0, .int .i64 0]), 2, 16))
    (hs : a.eval s = v) (h : Acc2 w wr E v l) (g c : Nat) (x y : Int) (hg0 : wr.heap.size = g) (hx : a.eval xo = .slice (some ⟨g, 0, none⟩) 1 c) (hn : l.length + 1 ≤ 4294967296)
    (hK : ∀ v' w', Acc2 w w' E v' (l ++ [(x, y)]) → (wr.alloc (.cells #[.int .i64 x, .int .i64 y] E)).grownBy w' v.ownBlock → (v'.ownBlock = v.ownBlock ∨ v'.ownBlock = some (wr.heap.size + 1)) → wpList P ops Q rest (a.put o.dst v') w') : wpList P ops Q (o :: rest) a (wr.alloc (.cells #[.int .i64 x, .int .i64 y] E)) := by
  obtain ⟨i, hi, hz0, hz1, hz2⟩ := info_parts hE
  subst hg0
  refine wpList_append_own_at _ hgd s xo t ho w.heap.size E i _ 2 16 ht hi hz0 hz1 hz2 rfl (by omega) v l.length (cells2 l) hs (h.1.alloc _) ⟨wr.heap.size, 0, none⟩ 1 c [.int .i64 x, .int .i64 y] hx rfl ?_ ?_ (by unfold maxLen; omega) (by omega)
    (h.alloc (.cells #[.int .i64 x, .int .i64 y] E)).2.size ?_
  · intro j u hu
    match j, hu with
    | 0, hu => simp at hu; subst hu; simp [Addr.add, World.cell?_alloc_new]
    | 1, hu => simp at hu; subst hu; simp [Addr.add, World.cell?_alloc_new]
  · intro u hu
    simp only [List.mem_cons, List.not_mem_nil, or_false] at hu
    rcases hu with rfl | rfl <;> rfl
  · intro v' w' hown hg _ hat
    have ha := h.alloc (.cells #[.int .i64 x, .int .i64 y] E)
    refine hK v' w' ⟨?_, ha.2.grown hg ha.2.size fun k hk => (ha.1.lt k hk).1⟩ hg (by simpa using hat)
    have e : cells2 (l ++ [(x, y)]) = cells2 l ++ [.int .i64 x, .int .i64 y] := by rw [cells2_append]; rfl
    rw [e, List.length_append]
    exact hown
/-- The same over any base. -/
theorem wpList_app2_base {P : Program} {ops : Array Oper} {rest : List Oper} {o : Oper} {a : Act} {Q : Exit → Act → World → Prop} (hgd : o.guard = none) (s xo : Operand) (t : TypeId)
    (ho : o.op = .call { callee := .builtin .append, args := #[s, xo], argTypes := #[t, t] }) {B : Nat} {wr : World} {E : TypeId} {v : Value} {l : List (Int × Int)}
    (ht : P.underlying t = some (.slice E)) (hE : (P.info? E).map (fun i => (i.zero, i.size, i.bytes)) = some (some (.agg #[.int .i64 0, .int .i64 0]), 2, 16))
    (hs : a.eval s = v) (h : wr.ownsRow B E 2 v l.length (cells2 l)) (hB : B ≤ wr.heap.size) (g c : Nat) (x y : Int) (hg0 : wr.heap.size = g) (hx : a.eval xo = .slice (some ⟨g, 0, none⟩) 1 c) (hn : l.length + 1 ≤ 4294967296)
    (hK : ∀ v' w', w'.ownsRow B E 2 v' (l ++ [(x, y)]).length (cells2 (l ++ [(x, y)])) → (wr.alloc (.cells #[.int .i64 x, .int .i64 y] E)).grownBy w' v.ownBlock → (v'.ownBlock = v.ownBlock ∨ v'.ownBlock = some (wr.heap.size + 1)) →
      wpList P ops Q rest (a.put o.dst v') w') : wpList P ops Q (o :: rest) a (wr.alloc (.cells #[.int .i64 x, .int .i64 y] E)) := by
  obtain ⟨i, hi, hz0, hz1, hz2⟩ := info_parts hE
  subst hg0
  refine wpList_append_own_at _ hgd s xo t ho B E i _ 2 16 ht hi hz0 hz1 hz2 rfl (by omega) v l.length (cells2 l) hs (h.alloc _) ⟨wr.heap.size, 0, none⟩ 1 c [.int .i64 x, .int .i64 y] hx rfl ?_ ?_ (by unfold maxLen; omega) (by omega) (by simp; omega) ?_
  · intro j u hu
    match j, hu with
    | 0, hu => simp at hu; subst hu; simp [Addr.add, World.cell?_alloc_new]
    | 1, hu => simp at hu; subst hu; simp [Addr.add, World.cell?_alloc_new]
  · intro u hu
    simp only [List.mem_cons, List.not_mem_nil, or_false] at hu
    rcases hu with rfl | rfl <;> rfl
  · intro v' w' hown hg _ hat
    refine hK v' w' ?_ hg (by simpa using hat)
    have e : cells2 (l ++ [(x, y)]) = cells2 l ++ [.int .i64 x, .int .i64 y] := by rw [cells2_append]; rfl
    rw [e, List.length_append]
    exact hown
theorem wpList_app1_base {P : Program} {ops : Array Oper} {rest : List Oper} {o : Oper} {a : Act} {Q : Exit → Act → World → Prop} (hgd : o.guard = none) (s xo : Operand) (t : TypeId)
    (ho : o.op = .call { callee := .builtin .append, args := #[s, xo], argTypes := #[t, t] }) {B : Nat} {wr : World} {E : TypeId} {v : Value} {l : List Int}
    (ht : P.underlying t = some (.slice E)) (hE : (P.info? E).map (fun i => (i.zero, i.size, i.bytes)) = some (some (.int .i64 0), 1, 8))
    (hs : a.eval s = v) (h : wr.ownsRow B E 1 v l.length (cells1 .i64 l)) (hB : B ≤ wr.heap.size) (g c : Nat) (x : Int) (hg0 : wr.heap.size = g) (hx : a.eval xo = .slice (some ⟨g, 0, none⟩) 1 c) (hn : l.length + 1 ≤ 4294967296)
    (hK : ∀ v' w', w'.ownsRow B E 1 v' (l ++ [x]).length (cells1 .i64 (l ++ [x])) → (wr.alloc (.cells #[.int .i64 x] E)).grownBy w' v.ownBlock → (v'.ownBlock = v.ownBlock ∨ v'.ownBlock = some (wr.heap.size + 1)) →
      wpList P ops Q rest (a.put o.dst v') w') : wpList P ops Q (o :: rest) a (wr.alloc (.cells #[.int .i64 x] E)) := by
  obtain ⟨i, hi, hz0, hz1, hz2⟩ := info_parts hE
  subst hg0
  refine wpList_append_own_at _ hgd s xo t ho B E i _ 1 8 ht hi hz0 hz1 hz2 rfl (by omega) v l.length (cells1 .i64 l) hs (h.alloc _) ⟨wr.heap.size, 0, none⟩ 1 c [.int .i64 x] hx rfl ?_ ?_ (by unfold maxLen; omega) (by omega) (by simp; omega) ?_
  · intro j u hu
    match j, hu with
    | 0, hu => simp at hu; subst hu; simp [Addr.add, World.cell?_alloc_new]
  · intro u hu
    simp only [List.mem_cons, List.not_mem_nil, or_false] at hu
    subst hu
    rfl
  · intro v' w' hown hg _ hat
    refine hK v' w' ?_ hg (by simpa using hat)
    have e : cells1 .i64 (l ++ [x]) = cells1 .i64 l ++ [.int .i64 x] := by rw [cells1_append]; rfl
    rw [e, List.length_append]
    exact hown
/-- 'append(out, x)' of one integer. -/
theorem wpList_app1 {P : Program} {ops : Array Oper} {rest : List Oper} {o : Oper} {a : Act} {Q : Exit → Act → World → Prop} (hgd : o.guard = none) (s xo : Operand) (t : TypeId)
    (ho : o.op = .call { callee := .builtin .append, args := #[s, xo], argTypes := #[t, t] }) {w wr : World} {E : TypeId} {v : Value} {l : List Int}
    (ht : P.underlying t = some (.slice E)) (hE : (P.info? E).map (fun i => (i.zero, i.size, i.bytes)) = some (some (.int .i64 0), 1, 8))
    (hs : a.eval s = v) (h : Acc1 w wr E .i64 v l) (g c : Nat) (x : Int) (hg0 : wr.heap.size = g) (hx : a.eval xo = .slice (some ⟨g, 0, none⟩) 1 c) (hn : l.length + 1 ≤ 4294967296)
    (hK : ∀ v' w', Acc1 w w' E .i64 v' (l ++ [x]) → wpList P ops Q rest (a.put o.dst v') w') : wpList P ops Q (o :: rest) a (wr.alloc (.cells #[.int .i64 x] E)) := by
  obtain ⟨i, hi, hz0, hz1, hz2⟩ := info_parts hE
  subst hg0
  refine wpList_append_own _ hgd s xo t ho w.heap.size E i _ 1 8 ht hi hz0 hz1 hz2 rfl (by omega) v l.length (cells1 .i64 l) hs (h.1.alloc _) ⟨wr.heap.size, 0, none⟩ 1 c [.int .i64 x] hx rfl ?_ ?_ (by unfold maxLen; omega) (by omega)
    (h.alloc (.cells #[.int .i64 x] E)).2.size ?_
  · intro j u hu
    match j, hu with
    | 0, hu => simp at hu; subst hu; simp [Addr.add, World.cell?_alloc_new]
  · intro u hu
    simp only [List.mem_cons, List.not_mem_nil, or_false] at hu
    subst hu
    rfl
  · intro v' w' hown hg _
    have ha := h.alloc (.cells #[.int .i64 x] E)
    refine hK v' w' ⟨?_, ha.2.grown hg ha.2.size fun k hk => (ha.1.lt k hk).1⟩
    have e : cells1 .i64 (l ++ [x]) = cells1 .i64 l ++ [.int .i64 x] := by rw [cells1_append]; rfl
    rw [e, List.length_append]
    exact hown

/-! ## make -/
theorem run_make_rowN {P : Program} (t e : TypeId) (i : TypeInfo) (z : Value) (ht : P.underlying t = some (.slice e)) (hi : P.info? e = some i) (hz : i.zero = some z)
    (kl kc : IntKind) (n c : Nat) (hnc : n ≤ c) (hbytes : i.bytes * c ≤ 281474976710656) (h63 : c ≤ 9223372036854775807) (w : World) :
    (Instr.makeSlice t (.int kl (n : Int)) (.int kc (c : Int))).run P w = .ok (.slice (some ⟨w.heap.size, 0, none⟩) n c) (w.alloc (.cells (madeCells z.cells (c * i.size)) e)) := by
  have hb : (i.bytes : Int) * (c : Int) ≤ 281474976710656 := by
    have h : ((i.bytes * c : Nat) : Int) ≤ 281474976710656 := by omega
    rwa [Int.natCast_mul] at h
  have hr := run_make (P := P) w t e i z ht hi hz kl kc n c (by omega) (by omega) hb (by omega)
  simp only [Int.toNat_natCast] at hr
  exact hr
theorem run_make2 {P : Program} {t E : TypeId} (ht : P.underlying t = some (.slice E)) (hE : (P.info? E).map (fun i => (i.zero, i.size, i.bytes)) = some (some (.agg #[.int .i64 0, .int .i64 0]), 2, 16))
    (n : Nat) (hn : n ≤ 4294967296) (w : World) :
    (Instr.makeSlice t (.int .i64 (n : Int)) (.int .i64 (n : Int))).run P w = .ok (.slice (some ⟨w.heap.size, 0, none⟩) n n) (w.alloc (.cells (madeCells #[.int .i64 0, .int .i64 0] (n * 2)) E)) := by
  obtain ⟨i, hi, hz0, hz1, hz2⟩ := info_parts hE
  have h := run_make_rowN (P := P) t E i _ ht hi hz0 .i64 .i64 n n (Nat.le_refl _) (by rw [hz2]; omega) (by omega) w
  rw [hz1] at h
  exact h
theorem run_make1 {P : Program} {t E : TypeId} {kd : IntKind} {by_ : Nat} (ht : P.underlying t = some (.slice E)) (hE : (P.info? E).map (fun i => (i.zero, i.size, i.bytes)) = some (some (.int kd 0), 1, by_)) (hb : by_ ≤ 8)
    (n : Nat) (hn : n ≤ 4294967296) (w : World) :
    (Instr.makeSlice t (.int .i64 (n : Int)) (.int .i64 (n : Int))).run P w = .ok (.slice (some ⟨w.heap.size, 0, none⟩) n n) (w.alloc (.cells (madeCells #[.int kd 0] n) E)) := by
  obtain ⟨i, hi, hz0, hz1, hz2⟩ := info_parts hE
  have hm : i.bytes * n ≤ 8 * n := Nat.mul_le_mul_right n (by omega)
  have h := run_make_rowN (P := P) t E i _ ht hi hz0 .i64 .i64 n n (Nat.le_refl _) (by omega) (by omega) w
  rw [hz1, Nat.mul_one] at h
  exact h
theorem rowIs_made2 (w : World) (n : Nat) (t : TypeId) : (w.alloc (.cells (madeCells #[.int .i64 0, .int .i64 0] (n * 2)) t)).rowIs w.heap.size t (n * 2) (fun _ => .int .i64 0) := by
  refine ⟨_, heap_alloc_new _ _, size_madeCells _ _, fun i hi => ?_⟩
  rcases Nat.mod_two_eq_zero_or_one i with h | h <;> simp [madeCells, hi, h]

/-! ## a row known whole reads as a list, and is owned -/
def cellAt (l : List (Int × Int)) (j : Nat) : Value := .int .i64 (if j % 2 = 0 then fA l (j / 2) else fB l (j / 2))
theorem cells2_at (l : List (Int × Int)) (j : Nat) (h : j < l.length * 2) : (cells2 l)[j]? = some (cellAt l j) := by
  have hk : j / 2 < l.length := by omega
  obtain ⟨h1, h2⟩ := cells2_get l (j / 2) hk
  unfold cellAt
  rcases Nat.mod_two_eq_zero_or_one j with e | e
  · rw [if_pos e, ← h1]; congr 1; omega
  · rw [if_neg (by omega), ← h2]; congr 1; omega
theorem own_of_row {w : World} {g base : Nat} {E : TypeId} {l : List (Int × Int)} (h : w.rowIs g E (l.length * 2) (cellAt l)) (hb : base ≤ g) (hn : l.length ≤ 4294967296) :
    w.ownsRow base E 2 (.slice (some ⟨g, 0, none⟩) l.length l.length) l.length (cells2 l) := by
  obtain ⟨c, hg, hs, hc⟩ := h
  refine ⟨length_cells2 l, .inr ⟨g, l.length, c, rfl, hb, hg, Nat.le_refl _, by unfold maxLen; omega, hs, ?_⟩⟩
  apply List.ext_getElem?
  intro j
  rw [List.getElem?_take]
  split
  · rename_i hj
    rw [cells2_at l j hj, ← hc j hj]
    simp
  · rename_i hj
    rw [List.getElem?_eq_none (by rw [length_cells2]; omega)]
theorem own1_of_row {w : World} {g base : Nat} {E : TypeId} {kd : IntKind} {l : List Int} (h : w.rowIs g E l.length (fun j => .int kd (gI l j))) (hb : base ≤ g) (hn : l.length ≤ 4294967296) :
    w.ownsRow base E 1 (.slice (some ⟨g, 0, none⟩) l.length l.length) l.length (cells1 kd l) := by
  obtain ⟨c, hg, hs, hc⟩ := h
  refine ⟨by simp [length_cells1], .inr ⟨g, l.length, c, rfl, hb, hg, Nat.le_refl _, by unfold maxLen; omega, by simpa using hs, ?_⟩⟩
  apply List.ext_getElem?
  intro j
  rw [List.getElem?_take]
  split
  · rename_i hj
    rw [cells1_get kd l j (by omega), ← hc j (by omega)]
    simp
  · rename_i hj
    rw [List.getElem?_eq_none (by rw [length_cells1]; omega)]

/-! ## a row of the call's own that is written in place -/
/-- Block g holds N cells (and perhaps more), none frozen, cell i holding 'f i'. -/
def Row (w : World) (g : Nat) (E : TypeId) (N : Nat) (f : Nat → Value) : Prop := ∃ c : Array Value, w.heap[g]? = some (.cells c E (0, 0)) ∧ N ≤ c.size ∧ ∀ i, i < N → c[i]? = some (f i)
section
variable {w w' : World} {g : Nat} {E : TypeId} {N : Nat} {f f' : Nat → Value}
theorem Row.cell (h : Row w g E N f) {i : Nat} (hi : i < N) : w.cell? ⟨g, i, none⟩ = some (f i) := by
  obtain ⟨c, hb, _, hc⟩ := h
  simp [World.cell?, hb, hc i hi]
theorem Row.frozen (h : Row w g E N f) (i : Nat) : w.frozen? ⟨g, i, none⟩ = false := by
  obtain ⟨c, hb, _, _⟩ := h
  simp [World.frozen?, hb]
theorem Row.lt (h : Row w g E N f) : g < w.heap.size := by
  obtain ⟨c, hb, _, _⟩ := h
  exact (Array.getElem?_eq_some_iff.1 hb).1
theorem Row.congr (h : Row w g E N f) (e : ∀ i, i < N → f i = f' i) : Row w g E N f' := by
  obtain ⟨c, hb, hn, hc⟩ := h
  exact ⟨c, hb, hn, fun i hi => by rw [hc i hi, e i hi]⟩
theorem Row.of_block (h : Row w g E N f) (e : w'.heap[g]? = w.heap[g]?) : Row w' g E N f := by
  obtain ⟨c, hb, hn, hc⟩ := h
  exact ⟨c, e.trans hb, hn, hc⟩
theorem Row.set (h : Row w g E N f) (i : Nat) (v : Value) : Row (w.setCell ⟨g, i, none⟩ v) g E N (fun j => if j = i then v else f j) := by
  obtain ⟨c, hb, hn, hc⟩ := h
  refine ⟨c.setIfInBounds i v, ?_, by simpa using hn, fun j hj => ?_⟩
  · simp [World.setCell, Array.getElem?_modify, hb]
  · rw [Array.getElem?_setIfInBounds]
    show _ = some (if j = i then v else f j)
    by_cases e : i = j
    · subst e; rw [if_pos rfl, if_pos (by omega), if_pos rfl]
    · rw [if_neg e, if_neg (Ne.symm e), hc j hj]
theorem Row.below (h : Row w g E N f) {B : Nat} (hb : Below B w w') (hg : g < B) : Row w' g E N f := h.of_block (hb.block g hg)
theorem Row.alloc (h : Row w g E N f) (o : Obj) : Row (w.alloc o) g E N f := h.of_block (Below.heap_alloc w o g h.lt)
theorem Row.drewN (h : Row w g E N f) (n : Nat) : Row (w.drewN n) g E N f := h
theorem Row.of_own {base n : Nat} {cap : Nat} {l : List (Int × Int)} (h : w.ownsRow base E 2 (.slice (some ⟨g, 0, none⟩) n cap) n (cells2 l)) : Row w g E (n * 2) (cellAt l) := by
  obtain ⟨hlen, h⟩ := h
  rcases h with ⟨h1, _⟩ | ⟨g', cap', cur, hv, _, hb, hnc, _, hs, ht⟩
  · cases h1
  · injection hv with hv _ _
    injection hv with hv
    injection hv with hv _ _
    subst hv
    refine ⟨cur, hb, by rw [hs]; exact Nat.mul_le_mul_right 2 hnc, fun i hi => ?_⟩
    have e : cur.toList[i]? = (cells2 l)[i]? := by rw [← ht, List.getElem?_take, if_pos hi]
    rw [length_cells2] at hlen
    rw [cells2_at l i (by omega)] at e
    simpa using e
theorem Row.of_own1 {base n : Nat} {cap : Nat} {kd : IntKind} {l : List Int} (h : w.ownsRow base E 1 (.slice (some ⟨g, 0, none⟩) n cap) n (cells1 kd l)) : Row w g E n (fun i => .int kd (gI l i)) := by
  obtain ⟨hlen, h⟩ := h
  rcases h with ⟨h1, _⟩ | ⟨g', cap', cur, hv, _, hb, hnc, _, hs, ht⟩
  · cases h1
  · injection hv with hv _ _
    injection hv with hv
    injection hv with hv _ _
    subst hv
    refine ⟨cur, hb, by rw [hs]; omega, fun i hi => ?_⟩
    have e : cur.toList[i]? = (cells1 kd l)[i]? := by rw [← ht, List.getElem?_take, if_pos (by omega)]
    rw [length_cells1] at hlen
    rw [cells1_get kd l i (by omega)] at e
    simpa using e
theorem Row.rd {l : List (Int × Int)} (h : Row w g E (l.length * 2) (cellAt l)) : Rd w w.heap.size (some ⟨g, 0, none⟩) l := fun _ => by
  refine ⟨g, 0, rfl, h.lt, fun k hk => ?_⟩
  have h1 := h.cell (i := k * 2) (by omega)
  have h2 := h.cell (i := k * 2 + 1) (by omega)
  refine ⟨?_, ?_⟩
  · rw [Nat.zero_add, h1]; simp [cellAt]
  · rw [Nat.zero_add, h2, cellAt, if_neg (by omega), show (k * 2 + 1) / 2 = k by omega]
theorem Row.rdI {l : List Int} {kd : IntKind} (h : Row w g E l.length (fun i => .int kd (gI l i))) : RdI w w.heap.size kd (some ⟨g, 0, none⟩) l := fun _ => by
  refine ⟨g, 0, rfl, h.lt, fun k hk => ?_⟩
  rw [Nat.zero_add]
  exact h.cell hk
end
/-- Block g is just these cells. -/
def Blk (w : World) (g : Nat) (t : TypeId) (cs : Array Value) : Prop := w.heap[g]? = some (.cells cs t (0, 0))
section
variable {w w' : World} {g : Nat} {t : TypeId} {cs : Array Value}
theorem Blk.lt (h : Blk w g t cs) : g < w.heap.size := (Array.getElem?_eq_some_iff.1 h).1
theorem Blk.cell (h : Blk w g t cs) (i : Nat) : w.cell? ⟨g, i, none⟩ = cs[i]? := cell_of_row w g i cs t (0, 0) h
theorem Blk.frozen (h : Blk w g t cs) (i : Nat) : w.frozen? ⟨g, i, none⟩ = false := by
  unfold Blk at h
  simp [World.frozen?, h]
theorem Blk.new_ (w : World) (t : TypeId) (cs : Array Value) : Blk (w.alloc (.cells cs t)) w.heap.size t cs := heap_alloc_new w _
theorem Blk.drewN (h : Blk w g t cs) (n : Nat) : Blk (w.drewN n) g t cs := h
theorem Blk.alloc (h : Blk w g t cs) (o : Obj) : Blk (w.alloc o) g t cs := (Below.heap_alloc w o g h.lt).trans h
theorem Blk.set (h : Blk w g t cs) (i : Nat) (u : Value) : Blk (w.setCell ⟨g, i, none⟩ u) g t (cs.setIfInBounds i u) := by
  unfold Blk at h ⊢
  simp [World.setCell, Array.getElem?_modify, h]
theorem Blk.far (h : Blk w g t cs) {p : Addr} (hp : g ≠ p.block) (u : Value) : Blk (w.setCell p u) g t cs := (Below.heap_setCell w p u g hp).trans h
theorem Blk.below {B : Nat} (h : Blk w g t cs) (hb : Below B w w') (hg : g < B) : Blk w' g t cs := (hb.block g hg).trans h
theorem Blk.grown {row : Option Nat} (h : Blk w g t cs) (hb : w.grownBy w' row) (hg : row ≠ some g) : Blk w' g t cs := (hb.block g h.lt (fun e => hg e.symm)).trans h
end
/-- One field of one pair is another. -/
def putA (l : List (Int × Int)) (k : Nat) (x : Int) : List (Int × Int) := l.set k (x, fB l k)
def putB (l : List (Int × Int)) (k : Nat) (x : Int) : List (Int × Int) := l.set k (fA l k, x)
theorem length_putA (l : List (Int × Int)) (k : Nat) (x : Int) : (putA l k x).length = l.length := by simp [putA]
theorem length_putB (l : List (Int × Int)) (k : Nat) (x : Int) : (putB l k x).length = l.length := by simp [putB]
theorem cells2_putA (l : List (Int × Int)) (k : Nat) (x : Int) (hk : k < l.length) : cells2 (putA l k x) = (cells2 l).set (k * 2) (.int .i64 x) := by
  apply List.ext_getElem?
  intro j
  rw [List.getElem?_set]
  by_cases hj : j < l.length * 2
  · rw [cells2_at _ j (by rw [length_putA]; exact hj)]
    by_cases e : k * 2 = j
    · subst e
      rw [if_pos rfl, if_pos (by rw [length_cells2]; omega)]
      simp [cellAt, fA, putA, hk]
    · rw [if_neg e, cells2_at l j hj]
      by_cases e2 : j / 2 = k
      · have : j % 2 = 1 := by omega
        simp [cellAt, this, e2, fB, putA, hk]
      · simp only [cellAt, fA, fB, putA]
        rw [List.getD_eq_getElem?_getD, List.getElem?_set_ne (Ne.symm e2), ← List.getD_eq_getElem?_getD]
  · rw [List.getElem?_eq_none (by rw [length_cells2, length_putA]; omega), if_neg (by omega), List.getElem?_eq_none (by rw [length_cells2]; omega)]
theorem cells2_putB (l : List (Int × Int)) (k : Nat) (x : Int) (hk : k < l.length) : cells2 (putB l k x) = (cells2 l).set (k * 2 + 1) (.int .i64 x) := by
  apply List.ext_getElem?
  intro j
  rw [List.getElem?_set]
  by_cases hj : j < l.length * 2
  · rw [cells2_at _ j (by rw [length_putB]; exact hj)]
    by_cases e : k * 2 + 1 = j
    · subst e
      rw [if_pos rfl, if_pos (by rw [length_cells2]; omega)]
      have e3 : (k * 2 + 1) / 2 = k := by omega
      have e4 : (k * 2 + 1) % 2 = 1 := by omega
      simp [cellAt, fB, putB, hk, e3, e4]
    · rw [if_neg e, cells2_at l j hj]
      by_cases e2 : j / 2 = k
      · have : j % 2 = 0 := by omega
        simp [cellAt, this, e2, fA, putB, hk]
      · simp only [cellAt, fA, fB, putB]
        rw [List.getD_eq_getElem?_getD, List.getElem?_set_ne (Ne.symm e2), ← List.getD_eq_getElem?_getD]
  · rw [List.getElem?_eq_none (by rw [length_cells2, length_putB]; omega), if_neg (by omega), List.getElem?_eq_none (by rw [length_cells2]; omega)]
def putI (l : List Int) (k : Nat) (x : Int) : List Int := l.set k x
theorem length_putI (l : List Int) (k : Nat) (x : Int) : (putI l k x).length = l.length := by simp [putI]
theorem cells1_putI (kd : IntKind) (l : List Int) (k : Nat) (x : Int) : cells1 kd (putI l k x) = (cells1 kd l).set k (.int kd x) := by simp [cells1, putI, List.map_set]
theorem grownBy_refl (w : World) (row : Option Nat) : w.grownBy w row := ⟨rfl, rfl, rfl, Nat.le_refl _, fun _ _ _ => rfl⟩
theorem grownBy_set {a w : World} {g : Nat} (h : a.grownBy w (some g)) (i : Nat) (u : Value) : a.grownBy (w.setCell ⟨g, i, none⟩ u) (some g) :=
  ⟨h.os, h.tape, h.output, by simpa [World.setCell] using h.size, fun i hi hne => (Below.heap_setCell w ⟨g, _, none⟩ u i (by rintro rfl; exact hne rfl)).trans (h.block i hi hne)⟩
theorem grownBy_alloc {a w : World} {row : Option Nat} (h : a.grownBy w row) (o : Obj) : a.grownBy (w.alloc o) row :=
  ⟨h.os, h.tape, h.output, Nat.le_trans h.size (by simp), fun i hi hne => (Below.heap_alloc w o i (Nat.lt_of_lt_of_le hi h.size)).trans (h.block i hi hne)⟩
theorem grownBy_setFar {a w : World} {row : Option Nat} (h : a.grownBy w row) {p : Addr} (hp : a.heap.size ≤ p.block) (u : Value) : a.grownBy (w.setCell p u) row :=
  ⟨h.os, h.tape, h.output, by simpa [World.setCell] using h.size, fun i hi hne => (Below.heap_setCell w p u i (by omega)).trans (h.block i hi hne)⟩
/-- Two steps: the second touches only what is new, or block g. -/
theorem grownBy_then {a b c : World} {row row' : Option Nat} (h : a.grownBy b row) (k : b.grownBy c row') (hr : ∀ j, row' = some j → a.heap.size ≤ j ∨ row = some j) : a.grownBy c row :=
  ⟨k.os.trans h.os, k.tape.trans h.tape, k.output.trans h.output, Nat.le_trans h.size k.size, fun i hi hne => (k.block i (Nat.lt_of_lt_of_le hi h.size) (fun e => by
    rcases hr i e.symm with h1 | h1
    · omega
    · exact hne h1.symm)).trans (h.block i hi hne)⟩
theorem grownBy_of_below {a b : World} (h : Below a.heap.size a b) (row : Option Nat) : a.grownBy b row := ⟨h.os, h.tape, h.output, h.size, fun i hi _ => h.block i hi⟩
theorem below_of_grownBy {a b c : World} {g : Nat} (h : Below a.heap.size a b) (k : b.grownBy c (some g)) (hg : a.heap.size ≤ g) : Below a.heap.size a c :=
  h.grown k h.size fun j e => by injection e with e; omega
theorem grownBy_drewN {a w : World} {row : Option Nat} (h : a.grownBy w row) (n : Nat) : a.grownBy (w.drewN n) row := ⟨h.os, h.tape, h.output, h.size, h.block⟩

/-! ## what the functions hand back -/
/-- One slice of pairs. -/
def RetS (w : World) (E : TypeId) (l : List (Int × Int)) (e : Ending) (w' : World) : Prop :=
  ∃ A c, e = .returned (.slice A l.length c) ∧ w'.ownsRow w.heap.size E 2 (.slice A l.length c) l.length (cells2 l) ∧ Below w.heap.size w w'
/-- A slice of pairs and a bool. -/
def RetSB (w : World) (E : TypeId) (l : List (Int × Int)) (ok : Bool) (e : Ending) (w' : World) : Prop :=
  ∃ A c, e = .returned (.tuple #[.slice A l.length c, .bool ok]) ∧ w'.ownsRow w.heap.size E 2 (.slice A l.length c) l.length (cells2 l) ∧ Below w.heap.size w w'
/-- One slice of integers. -/
def RetI (w : World) (E : TypeId) (l : List Int) (e : Ending) (w' : World) : Prop :=
  ∃ A c, e = .returned (.slice A l.length c) ∧ w'.ownsRow w.heap.size E 1 (.slice A l.length c) l.length (cells1 .i64 l) ∧ Below w.heap.size w w'
/-- A slice of integers and a bool. -/
def RetIB (w : World) (E : TypeId) (l : List Int) (ok : Bool) (e : Ending) (w' : World) : Prop :=
  ∃ A c, e = .returned (.tuple #[.slice A l.length c, .bool ok]) ∧ w'.ownsRow w.heap.size E 1 (.slice A l.length c) l.length (cells1 .i64 l) ∧ Below w.heap.size w w'

/-! ## regions whose calls make memory but change nothing that was there -/
def BwIdx (w : World) : Type := { w' : World // Below w.heap.size w w' }
instance bwNonempty (w : World) : Nonempty (BwIdx w) := ⟨⟨w, Below.refl _ _⟩⟩
def bw (w : World) (i : BwIdx w) : World := i.1
theorem bw_below (w : World) (i : BwIdx w) : Below w.heap.size w (bw w i) := i.2
theorem bw_size (w : World) (i : BwIdx w) : w.heap.size ≤ (bw w i).heap.size := i.2.size
theorem bw_cell (w : World) (i : BwIdx w) (b o : Nat) (h : b < w.heap.size) : (bw w i).cell? ⟨b, o, none⟩ = w.cell? ⟨b, o, none⟩ := i.2.cell (p := ⟨b, o, none⟩) h
theorem bw_frozen (w : World) (i : BwIdx w) (b o : Nat) (h : b < w.heap.size) : (bw w i).frozen? ⟨b, o, none⟩ = w.frozen? ⟨b, o, none⟩ := i.2.frozen (p := ⟨b, o, none⟩) h
attribute [go_sem] bw_cell bw_frozen
theorem bw_ret {P : Program} {f : FuncId} {args : Array Value} {w : World} {i : BwIdx w} {v : Value}
    (h : Calls P f args (bw w i) fun e w' => e = .returned v ∧ Below (bw w i).heap.size (bw w i) w') : Calls P f args (bw w i) fun e w'' => e = .returned v ∧ ∃ j, w'' = bw w j :=
  h.mono fun _ w' ⟨he, hm⟩ => ⟨he, ⟨w', (bw_below w i).trans (hm.mono (bw_size w i))⟩, rfl⟩
theorem wp_region_bw {P : Program} {id : Nat} {Q : Exit → Act → World → Prop} {a : Act} {w : World} {l : List Oper} (hm : P.follows .mixedOrders = true) (hB : Region.lexB .any l.toArray = true)
    (h : wpQuiet P l.toArray (fun w' => ∃ i, w' = bw w i) (fun a' => ∀ w', Below w.heap.size w w' → Q .normal a' w') l a) : (Code.region id l.toArray true).wp P Q a w := by
  refine wp_region_quiet (C := fun w' => ∃ i, w' = bw w i) hm hB ⟨⟨{ w with drawn := w.drawn + 1 }, ⟨rfl, rfl, rfl, Nat.le_refl _, fun _ _ => rfl⟩⟩, rfl⟩ ?_
  have hh : (fun a' : Act => ∀ w', (∃ i, w' = bw w i) → Q .normal a' w') = fun a' => ∀ w', Below w.heap.size w w' → Q .normal a' w' := by
    funext a'
    apply propext
    constructor
    · intro h1 w' hw'; exact h1 w' ⟨⟨w', hw'⟩, rfl⟩
    · intro h1 w' hw'; obtain ⟨i, rfl⟩ := hw'; exact h1 _ (bw_below w i)
  rw [hh]
  exact h

/-! ## regions that read first and end in a forced tail -/
theorem still_of_quiet {P : Program} {ops : Array Oper} {w : World} {Q : Act → Prop} : ∀ (l : List Oper) (a : Act), wpQuiet P ops (fun w' => w' = w) Q l a → wpStill P ops w Q l a
  | [], _, h => h
  | o :: l, a, h => by
    unfold wpQuiet at h
    unfold wpStill
    by_cases hw : Region.wanted o (yielded ops a.tmps) = true
    · rw [if_pos hw] at h ⊢
      obtain ⟨v, h1, h2⟩ := h
      have h3 := h1 w rfl
      have h4 := still_of_quiet l _ h2
      unfold Oper.quietAt at h3
      unfold Oper.still
      generalize (execOp a.eval o).run P w = r at *
      cases r with
      | ok n w' =>
        cases n <;> simp only [Oper.quietUpon] at h3 <;> simp only [Oper.stillUpon]
        case value u => obtain ⟨e1, e2⟩ := h3; rw [e2]; exact ⟨e1, h4⟩
        case skip => obtain ⟨e1, e2⟩ := h3; rw [e2] at h4; exact ⟨e1, h4⟩
        case enter f args => obtain ⟨e1, e2⟩ := h3; exact ⟨e1, v, e2, h4⟩
      | halt x w' => simp only [Oper.quietUpon] at h3
    · rw [if_neg hw] at h ⊢
      exact still_of_quiet l _ h
theorem wp_region_tailQ {P : Program} {id : Nat} {Q : Exit → Act → World → Prop} {a : Act} {w : World} {l : List Oper} (n : Nat) (hm : P.follows .mixedOrders = true) (hB : Region.lexTailB .any l.toArray n = true)
    (h : wpQuiet P l.toArray (fun w' => w' = w.drewN 1) (fun a' => wpList P l.toArray Q (l.drop n) a' (w.drewN 1)) (l.take n) a) : (Code.region id l.toArray true).wp P Q a w :=
  wp_region_still_tail n hm hB (still_of_quiet _ _ h)

end Go.Proofs.Ytkmeaipfafooaaa
