/- A region that draws its order, walked once along a plan: operations that only look at the frame and at cells that keep their content are taken as soon as they may come up; every other operation is carried out when it alone may come up. No condition. -/
import Derived.Test.YtkmeaipfafooaaaLib
import Derived.OrdersHeld
namespace Go.Proofs.Ytkmeaipfafooaaa
open Go.RowKit

/-- An operation that, if it does not fail, leaves a value. -/
def quietOp : Op → Bool
  | .move _ | .assign _ | .pick .. | .load .. | .binOp .. | .unOp .. | .convert .. | .build .. | .fieldAddr .. | .field .. | .indexAddr .. | .index .. | .slice .. | .extract .. => true
  | .call c => match c.callee with | .builtin .len | .builtin .max | .builtin .min | .builtin .cap => true | _ => false
  | _ => false

theorem run_v {P : Program} {s : Sem Value} {w w' : World} {n : Next} (h : (do pure (Next.value (← s)) : Sem Next).run P w = .ok n w') : ∃ v, n = .value v := by
  simp only [Sem.run_bind, Sem.run_pure] at h
  cases hr : s.run P w with
  | ok x w1 => rw [hr] at h; simp only [Result.andThen_ok] at h; injection h with h1 _; exact ⟨x, h1.symm⟩
  | halt x w1 => rw [hr] at h; simp [Result.andThen] at h

theorem quietOp_value {P : Program} {ρ : Operand → Value} {o : Oper} {w w' : World} {n : Next} (hq : quietOp o.op = true) (h : (execOp ρ o).run P w = .ok n w') : ∃ v, n = .value v := by
  unfold execOp at h
  cases ho : o.op with
  | move x => rw [ho] at h; simp only [Sem.run_pure] at h; injection h with h1 _; exact ⟨_, h1.symm⟩
  | assign x => rw [ho] at h; simp only [Sem.run_pure] at h; injection h with h1 _; exact ⟨_, h1.symm⟩
  | pick c a b =>
    rw [ho] at h
    simp only [Sem.run_bind] at h
    cases hr : (asBool (ρ c)).run P w with
    | ok x w1 =>
      rw [hr] at h
      simp only [Result.andThen_ok, Sem.run_pure] at h
      injection h with h1 _
      exact ⟨_, h1.symm⟩
    | halt x w1 => rw [hr] at h; simp [Result.andThen] at h
  | load t a => rw [ho] at h; exact run_v h
  | binOp op x a b t => rw [ho] at h; exact run_v h
  | unOp op t x => rw [ho] at h; exact run_v h
  | convert s d x => rw [ho] at h; exact run_v h
  | build t p => rw [ho] at h; exact run_v h
  | fieldAddr s x f => rw [ho] at h; exact run_v h
  | field s x f => rw [ho] at h; exact run_v h
  | indexAddr t x i => rw [ho] at h; exact run_v h
  | index t x i => rw [ho] at h; exact run_v h
  | slice t x lo hi mx => rw [ho] at h; exact run_v h
  | extract t i => rw [ho] at h; exact run_v h
  | call c =>
    rw [ho] at h hq
    simp only [quietOp] at hq
    cases hc : c.callee with
    | builtin b =>
      rw [hc] at hq
      simp only [resolve, hc, Sem.run_bind, Sem.run_pure, Result.andThen_ok, invoke, builtin] at h
      cases b <;> first | exact run_v h | (simp at hq)
    | invoke r nm => rw [hc] at hq; simp at hq
    | value f => rw [hc] at hq; simp at hq
  | _ => rw [ho] at hq; simp [quietOp] at hq

/-! ## the class of worlds -/
def SW (S : World → Prop) : Type := { w : World // S w }
def sw {S : World → Prop} (i : SW S) : World := i.1
theorem sw_is {S : World → Prop} (i : SW S) : S (sw i) := i.2

section
variable {P : Program} {md : Region.Mode} {ops : Array Oper} {S : World → Prop} {Q : Exit → Act → World → Prop}

theorem yieldsIf_of_quiet {o : Oper} {a : Act} {v : Value} (hq : quietOp o.op = true) (hw : Region.wanted o (yielded ops a.tmps) = true)
    (h : ∀ w, (∃ i : SW S, w = sw i) → o.quietAt P a (fun w' => ∃ i : SW S, w' = sw i) w v) : YieldsIf P ops S o v a := by
  refine .inl ⟨hw, fun w hS => ?_⟩
  have h3 := h w ⟨⟨w, hS⟩, rfl⟩
  unfold Oper.quietAt at h3
  cases hr : (execOp a.eval o).run P w with
  | ok n w' =>
    obtain ⟨x, rfl⟩ := quietOp_value hq hr
    rw [hr] at h3
    simp only [Oper.quietUpon] at h3
    rw [h3.1, h3.2]
  | halt x w' => rw [hr] at h3; exact h3.elim

def optCons : Option Oper → List Oper → List Oper
  | some o, l => o :: l
  | none, l => l
def opsAt (ops : Array Oper) : List Nat → List Oper
  | [] => []
  | i :: is => optCons ops[i]? (opsAt ops is)
def setAll (listed : Array Bool) : List Nat → Array Bool
  | [] => listed
  | i :: is => setAll (listed.setIfInBounds i true) is
/-- Number z waits for number i (or there is no number z). -/
def waitsB (md : Region.Mode) (ops : Array Oper) (z i : Nat) : Bool :=
  match ops[z]? with
  | some o => o.after.any fun e => Region.binds md e && e.on == i
  | none => true
/-- As long as number i has not come up, number z can't. -/
def blockB (md : Region.Mode) (ops : Array Oper) (z i : Nat) (listed : Array Bool) : Bool :=
  waitsB md ops z i || (List.range ops.size).any fun b => waitsB md ops z b && waitsB md ops b i && !(listed.getD b false)
def quietB (md : Region.Mode) (ops : Array Oper) (z : Nat) : List Nat → Array Bool → Bool
  | [], _ => true
  | i :: is, listed => blockB md ops z i listed && i != z && (match ops[i]? with | some o => quietOp o.op | none => false) && (Region.ready md ops listed).contains i && Region.free md ops listed i && quietB md ops z is (listed.setIfInBounds i true)
def planB (md : Region.Mode) (ops : Array Oper) (z : Nat) : List (List Nat × Nat) → List Nat → Array Bool → Bool
  | [], fin, listed => quietB md ops z fin listed && (Region.ready md ops (setAll listed fin)).isEmpty
  | (qs, e) :: rest, fin, listed => quietB md ops z qs listed && (Region.ready md ops (setAll listed qs) == [e]) && (e != z || (rest.isEmpty && fin.isEmpty)) && planB md ops z rest fin ((setAll listed qs).setIfInBounds e true)
def planLen : List (List Nat × Nat) → List Nat → Nat
  | [], fin => fin.length
  | (qs, _) :: rest, fin => planLen rest fin + 1 + qs.length

/-- Behind an operation of a region's own: the condition anew, and on. -/
def effQ (b : Bool) (S : World → Prop) (Q : Exit → Act → World → Prop) (K : Act → World → Prop) : Exit → Act → World → Prop
  | .normal, a, w => (b = true → S w) ∧ K a w
  | e, a, w => Q e a w
/-- No panic is let out. -/
def NoPan (Q : Exit → Act → World → Prop) : Exit → Act → World → Prop
  | .panic _, _, _ => False
  | e, a, w => Q e a w
def effOf (P : Program) (ops : Array Oper) (Q : Exit → Act → World → Prop) (a : Act) (w : World) : Option Oper → Prop
  | some o => wpList P ops Q [o] a w
  | none => False
def wpEff (P : Program) (ops : Array Oper) (z : Nat) (S : World → Prop) (Q : Exit → Act → World → Prop) (e : Nat) (K : Act → World → Prop) (a : Act) (w : World) : Prop :=
  effOf P ops (effQ (e != z) S Q K) a w ops[e]?
def wpPlan (P : Program) (ops : Array Oper) (z : Nat) (S : World → Prop) (Q : Exit → Act → World → Prop) : List (List Nat × Nat) → List Nat → Act → World → Prop
  | [], fin, a, w => wpQuiet P ops (fun w' => ∃ i : SW S, w' = sw i) (fun a' => Q .normal a' w) (opsAt ops fin) a
  | (qs, e) :: rest, fin, a, w => wpQuiet P ops (fun w' => ∃ i : SW S, w' = sw i) (fun a' => wpEff P ops z S Q e (fun a'' w'' => wpPlan P ops z S Q rest fin a'' w'') a' w) (opsAt ops qs) a

/-! ## whatever order is picked, the condition anew behind every operation but number z -/
def wpAnyZ (P : Program) (md : Region.Mode) (ops : Array Oper) (Q : Exit → Act → World → Prop) (S : World → Prop) (z : Nat) : Nat → Array Bool → Act → World → Prop
  | 0, listed, a, w => Region.ready md ops listed = [] ∧ Q .normal a w
  | fuel + 1, listed, a, w =>
    (Region.ready md ops listed = [] → Q .normal a w) ∧
    ∀ i ∈ Region.ready md ops listed, wpOp P ops Q i (fun a' w' => (i ≠ z → S w') ∧ wpAnyZ P md ops Q S z fuel (listed.setIfInBounds i true) a' w') a w
theorem wpAny_of_Z {z : Nat} : ∀ (fuel : Nat) (listed : Array Bool) (a : Act) (w : World), wpAnyZ P md ops Q S z fuel listed a w → wpAny P md ops Q fuel listed a w
  | 0, _, _, _, h => h
  | fuel + 1, _, _, _, h => ⟨h.1, fun i hi => wpOp_mono (fun a' w' h' => wpAny_of_Z fuel _ a' w' h'.2) (h.2 i hi)⟩
theorem not_ready_of_waits {z i : Nat} {listed : Array Bool} (hw : waitsB md ops z i = true) (hi : listed.getD i false = false) : z ∉ Region.ready md ops listed := by
  intro h
  obtain ⟨_, o, ho, hall⟩ := mem_ready.1 h
  unfold waitsB at hw
  rw [ho] at hw
  simp only [Array.any_eq_true, Bool.and_eq_true, beq_iff_eq] at hw
  obtain ⟨j, hj, h1, h2⟩ := hw
  have := hall _ (Array.getElem_mem hj) h1
  rw [h2, hi] at this
  cases this
theorem wpAnyZ_first {z i : Nat} {oi : Oper} {v : Value} (hi : ops[i]? = some oi) (hsel : ∀ (j : Nat) (o : Oper) cs b, ops[j]? = some o → o.op ≠ .select cs b)
    (hQ : ∀ c a w, Q (.panic c) (a.put oi.dst v) w → Q (.panic c) a w) (hiz : i ≠ z) :
    ∀ (fuel : Nat) (listed : Array Bool) (a : Act) (w : World), (waitsB md ops z i = true ∨ ∃ b, waitsB md ops z b = true ∧ waitsB md ops b i = true ∧ listed.getD b false = false) →
      (∀ j oj, ops[j]? = some oj → j ≠ i → listed.getD j true = false → (∀ e ∈ oj.after, Region.binds md e = true → e.on ≠ i) → oi.apart ops oj = true) →
      i ∈ Region.ready md ops listed → YieldsIf P ops S oi v a → S w →
      wpAnyZ P md ops Q S z fuel (listed.setIfInBounds i true) (a.put oi.dst v) w → wpAnyZ P md ops Q S z (fuel + 1) listed a w := by
  intro fuel
  induction fuel with
  | zero =>
    intro listed a w _ _ hr hy hS H
    refine ⟨fun h => (by rw [h] at hr; cases hr), fun j hj => ?_⟩
    by_cases hji : j = i
    · subst hji; exact hy.wpOp hi hS ⟨fun _ => hS, H⟩
    · have := ready_mono hj hji
      rw [H.1] at this
      cases this
  | succ fuel ih =>
    intro listed a w hz hfree hr hy hS H
    refine ⟨fun h => (by rw [h] at hr; cases hr), fun j hj => ?_⟩
    by_cases hji : j = i
    · subst hji; exact hy.wpOp hi hS ⟨fun _ => hS, H⟩
    · have h1 := H.2 j (ready_mono hj hji)
      obtain ⟨hjun, oj, hoj, hall⟩ := mem_ready.1 hj
      have hiun : listed.getD i false = false := by
        have h0 := (mem_ready.1 hr).1
        rcases Nat.lt_or_ge i listed.size with h' | h'
        · simp [h'] at h0 ⊢; exact h0
        · simp [Array.getElem?_eq_none h']
      have hjz : j ≠ z := fun e => by
        subst e
        rcases hz with hz | ⟨b, h1, _, h3⟩
        · exact not_ready_of_waits hz hiun hj
        · exact not_ready_of_waits h1 h3 hj
      have hz' : waitsB md ops z i = true ∨ ∃ b, waitsB md ops z b = true ∧ waitsB md ops b i = true ∧ (listed.setIfInBounds j true).getD b false = false := by
        rcases hz with hz | ⟨b, h1, h2, h3⟩
        · exact .inl hz
        · exact .inr ⟨b, h1, h2, by rw [getD_set_ne false (fun e => by subst e; exact not_ready_of_waits h2 hiun hj)]; exact h3⟩
      have hnot : ∀ e ∈ oj.after, Region.binds md e = true → e.on ≠ i := fun e he hb heq => by
        have h1 := hall e he hb
        rw [heq, hiun] at h1
        cases h1
      have h2 := wpOp_putIf hoj (hfree j oj hoj hji hjun hnot) (fun cs b => hsel i oi cs b hi) (fun cs b => hsel j oj cs b hoj) hQ hy h1
      have hfree' : ∀ k ok, ops[k]? = some ok → k ≠ i → (listed.setIfInBounds j true).getD k true = false →
          (∀ e ∈ ok.after, Region.binds md e = true → e.on ≠ i) → oi.apart ops ok = true := fun k ok hk hki hun hno => by
        refine hfree k ok hk hki ?_ hno
        by_cases hjk : j = k
        · subst hjk; exact hjun
        · rw [getD_set_ne true hjk] at hun; exact hun
      refine wpOp_mono (fun a' w' h3 => ⟨h3.2.1, ih (listed.setIfInBounds j true) a' w' hz' hfree' (ready_mono hr (Ne.symm hji)) h3.1 (h3.2.1 hjz) ?_⟩) h2
      rw [Array.setIfInBounds_comm _ _ hji]
      exact h3.2.2
theorem wpAnyZ_take {z i : Nat} {oi : Oper} {v : Value} {fuel : Nat} {listed : Array Bool} {a : Act} {w : World} (hi : ops[i]? = some oi)
    (hs : Region.noSelect ops = true) (hf : Region.free md ops listed i = true) (hr : (Region.ready md ops listed).contains i = true) (hz : blockB md ops z i listed = true) (hiz : i ≠ z)
    (hQ : ∀ c a w, Q (.panic c) (a.put oi.dst v) w → Q (.panic c) a w) (hy : YieldsIf P ops S oi v a) (hS : S w)
    (h : wpAnyZ P md ops Q S z fuel (listed.setIfInBounds i true) (a.put oi.dst v) w) : wpAnyZ P md ops Q S z (fuel + 1) listed a w :=
  wpAnyZ_first hi (Region.noSelect_spec hs) hQ hiz fuel listed a w (by
    simp only [blockB, Bool.or_eq_true, List.any_eq_true, Bool.and_eq_true, Bool.not_eq_true'] at hz
    rcases hz with hz | ⟨b, _, ⟨h1, h2⟩, h3⟩
    · exact .inl hz
    · exact .inr ⟨b, h1, h2, h3⟩) (Region.free_spec hi hf) (by simpa using hr) hy hS h
theorem wpAnyZ_all {z : Nat} {rs : List Nat} {fuel : Nat} {listed : Array Bool} {a : Act} {w : World} (hr : Region.ready md ops listed = rs) (hne : rs ≠ [])
    (h : ∀ i ∈ rs, wpOp P ops Q i (fun a' w' => (i ≠ z → S w') ∧ wpAnyZ P md ops Q S z fuel (listed.setIfInBounds i true) a' w') a w) : wpAnyZ P md ops Q S z (fuel + 1) listed a w :=
  ⟨fun h0 => absurd (hr ▸ h0) hne, hr ▸ h⟩
theorem wpAnyZ_done {z : Nat} {listed : Array Bool} {a : Act} {w : World} (hr : Region.ready md ops listed = []) (h : Q .normal a w) :
    ∀ fuel, wpAnyZ P md ops Q S z fuel listed a w
  | 0 => ⟨hr, h⟩
  | _ + 1 => ⟨fun _ => h, by rw [hr]; simp⟩

theorem quiet_sound {z : Nat} (hs : Region.noSelect ops = true) (hQ : ∀ c a a' w, Q (.panic c) a w → Q (.panic c) a' w) (w : World) (hS : S w) (K : Act → Prop) (fuel : Nat) :
    ∀ (qs : List Nat) (listed : Array Bool) (a : Act), quietB md ops z qs listed = true → wpQuiet P ops (fun w' => ∃ i : SW S, w' = sw i) K (opsAt ops qs) a →
      (∀ a', K a' → wpAnyZ P md ops Q S z fuel (setAll listed qs) a' w) → wpAnyZ P md ops Q S z (fuel + qs.length) listed a w
  | [], listed, a, _, h, hK => hK a h
  | i :: qs, listed, a, hB, h, hK => by
    simp only [quietB, Bool.and_eq_true] at hB
    obtain ⟨⟨⟨⟨⟨hz, hiz⟩, h1⟩, h2⟩, h3⟩, h4⟩ := hB
    have hiz' : i ≠ z := by simpa using hiz
    cases ho : ops[i]? with
    | none => rw [ho] at h1; simp at h1
    | some o =>
      rw [ho] at h1
      simp only at h1
      have e : opsAt ops (i :: qs) = o :: opsAt ops qs := by simp [opsAt, optCons, ho]
      rw [e] at h
      unfold wpQuiet at h
      have hlen : fuel + (i :: qs).length = fuel + qs.length + 1 := by simp; omega
      rw [hlen]
      by_cases hw : Region.wanted o (yielded ops a.tmps) = true
      · rw [if_pos hw] at h
        obtain ⟨v, hv, h5⟩ := h
        exact wpAnyZ_take ho hs h3 h2 hz hiz' (fun c a w => hQ c _ _ w) (yieldsIf_of_quiet h1 hw hv) hS (quiet_sound hs hQ w hS K fuel qs _ _ h4 h5 hK)
      · rw [if_neg hw] at h
        exact wpAnyZ_take ho hs h3 h2 hz hiz' (fun c a w => hQ c _ _ w) (.inr ⟨by simpa using hw, rfl⟩) hS (quiet_sound hs hQ w hS K fuel qs _ _ h4 h hK)

theorem effQ_lets {b : Bool} {K : Act → World → Prop} (h : LetsOut (effQ b S Q K)) : LetsOut Q := h
theorem wpOp_of_eff {z e : Nat} {K K' : Act → World → Prop} {a : Act} {w : World} (h : wpEff P ops z S Q e K a w) (hK : ∀ a w, ((e != z) = true → S w) → K a w → K' a w) :
    wpOp P ops Q e (fun a' w' => (e ≠ z → S w') ∧ K' a' w') a w := by
  unfold wpEff at h
  unfold wpOp
  cases ho : ops[e]? with
  | none => rw [ho] at h; exact h.elim
  | some o =>
    rw [ho] at h
    simp only [effOf, wpList] at h
    simp only
    by_cases hw : Region.wanted o (yielded ops a.tmps) = true
    · rw [if_pos hw] at h ⊢
      rcases h with h | ⟨h1, h2⟩
      · refine .inl ?_
        have ez : ∀ w, ((e != z) = true → S w) → e ≠ z → S w := fun w h hne => h (by simpa using hne)
        have : ∀ r : Result Next, o.upon P a (fun a' w' => effQ (e != z) S Q K .normal a' w') (effQ (e != z) S Q K) r → o.upon P a (fun a' w' => (e ≠ z → S w') ∧ K' a' w') Q r := by
          intro r hr
          cases r with
          | ok n w' =>
            cases n <;> simp only [Oper.upon] at hr ⊢
            case value v => exact ⟨ez _ hr.1, hK _ _ hr.1 hr.2⟩
            case skip => exact ⟨ez _ hr.1, hK _ _ hr.1 hr.2⟩
            case defer d => exact ⟨ez _ hr.1, hK _ _ hr.1 hr.2⟩
            case enter f args =>
              refine hr.mono fun en w'' he => ?_
              cases en with
              | returned v => exact ⟨ez _ he.1, hK _ _ he.1 he.2⟩
              | panicked c => exact he
              | outgrown => exact he
            case row rw_ args => exact hr.mono fun v w'' he => ⟨ez _ he.1, hK _ _ he.1 he.2⟩
          | halt x w' =>
            cases x <;> simp only [Oper.upon] at hr ⊢
            case panic v => exact hr
        exact this _ h
      · exact .inr ⟨h1, effQ_lets h2⟩
    · rw [if_neg hw] at h ⊢
      exact ⟨fun hne => h.1 (by simpa using hne), hK _ _ h.1 h.2⟩

theorem plan_sound {z : Nat} (hs : Region.noSelect ops = true) (hQ : ∀ c a a' w, Q (.panic c) a w → Q (.panic c) a' w) (fin : List Nat) :
    ∀ (plan : List (List Nat × Nat)) (fuel : Nat) (listed : Array Bool) (a : Act) (w : World), planB md ops z plan fin listed = true → (S w ∨ (plan = [] ∧ fin = [])) → wpPlan P ops z S Q plan fin a w →
      wpAnyZ P md ops Q S z (fuel + planLen plan fin) listed a w
  | [], fuel, listed, a, w, hB, hS, h => by
    simp only [planB, Bool.and_eq_true, List.isEmpty_iff] at hB
    unfold wpPlan at h
    rcases hS with hS | ⟨_, hf⟩
    · exact quiet_sound hs hQ w hS _ fuel fin listed a hB.1 h fun a' ha' => wpAnyZ_done hB.2 ha' fuel
    · subst hf
      exact wpAnyZ_done hB.2 h fuel
  | (qs, e) :: rest, fuel, listed, a, w, hB, hS, h => by
    simp only [planB, Bool.and_eq_true, beq_iff_eq, Bool.or_eq_true, List.isEmpty_iff] at hB
    unfold wpPlan at h
    have hS1 : S w := hS.resolve_right (fun hh => by cases hh.1)
    have hlen : fuel + planLen ((qs, e) :: rest) fin = (fuel + planLen rest fin + 1) + qs.length := by simp only [planLen]; omega
    rw [hlen]
    refine quiet_sound hs hQ w hS1 _ _ qs listed a hB.1.1.1 h fun a' ha' => ?_
    refine wpAnyZ_all hB.1.1.2 (by simp) fun i hi => ?_
    simp only [List.mem_singleton] at hi
    subst hi
    refine wpOp_of_eff ha' fun a'' w'' hS'' h'' => plan_sound hs hQ fin rest fuel _ a'' w'' hB.2 ?_ h''
    rcases hB.1.2 with he | he
    · exact .inl (hS'' he)
    · exact .inr he
end

/-- Behind operation number z the condition need not hold (it must be the last); 'none': there is no such operation. -/
def planOk (ops : Array Oper) (z : Option Nat) (plan : List (List Nat × Nat)) (fin : List Nat) : Bool :=
  Region.noSelect ops && planB .any ops (z.getD ops.size) plan fin (Array.replicate ops.size false) && decide (planLen plan fin = ops.size)

theorem wp_region_planZ {P : Program} {id : Nat} {Q : Exit → Act → World → Prop} {a : Act} {w : World} {l : List Oper} (S : World → Prop) (z : Option Nat) (plan : List (List Nat × Nat)) (fin : List Nat)
    (hm : P.follows .mixedOrders = true) (hB : planOk l.toArray z plan fin = true) (hS : S (w.drewN 1)) (h : Nonempty (SW S) → wpPlan P l.toArray (z.getD l.toArray.size) S (NoPan Q) plan fin a (w.drewN 1)) : (Code.region id l.toArray true).wp P Q a w := by
  simp only [planOk, Bool.and_eq_true, decide_eq_true_eq] at hB
  have h1 : (Code.region id l.toArray true).wp P (NoPan Q) a w := by
    refine wp_region_any hm (wpAny_of_Z (S := S) (z := z.getD l.toArray.size) _ _ _ _ ?_)
    have := plan_sound (md := .any) (Q := NoPan Q) hB.1.1 (fun c a a' w h => h.elim) fin plan 0 _ a (w.drewN 1) hB.1.2 (.inl hS) (h ⟨⟨_, hS⟩⟩)
    rw [Nat.zero_add, hB.2] at this
    exact this
  refine Code.wp_mono (fun e a w h => ?_) h1
  cases e <;> first | exact h | exact (h : False).elim

theorem wp_region_plan {P : Program} {id : Nat} {Q : Exit → Act → World → Prop} {a : Act} {w : World} {l : List Oper} (S : World → Prop) (plan : List (List Nat × Nat)) (fin : List Nat)
    (hm : P.follows .mixedOrders = true) (hB : planOk l.toArray none plan fin = true) (hS : S (w.drewN 1)) (h : Nonempty (SW S) → wpPlan P l.toArray l.toArray.size S (NoPan Q) plan fin a (w.drewN 1)) : (Code.region id l.toArray true).wp P Q a w :=
  wp_region_planZ S none plan fin hm hB hS h

theorem effQ_normal {b : Bool} {S : World → Prop} {Q : Exit → Act → World → Prop} {K : Act → World → Prop} {a : Act} {w : World} (hS : S w) (hK : K a w) : effQ b S Q K .normal a w := ⟨fun _ => hS, hK⟩
theorem effQ_last {b : Bool} {S : World → Prop} {Q : Exit → Act → World → Prop} {K : Act → World → Prop} {a : Act} {w : World} (hb : b = false) (hK : K a w) : effQ b S Q K .normal a w := ⟨fun h => (by rw [hb] at h; cases h), hK⟩
theorem noPan_normal {Q : Exit → Act → World → Prop} {a : Act} {w : World} (h : Q .normal a w) : NoPan Q .normal a w := h

end Go.Proofs.Ytkmeaipfafooaaa
