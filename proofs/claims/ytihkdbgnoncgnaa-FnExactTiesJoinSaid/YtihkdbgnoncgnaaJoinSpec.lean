/- Contracts of the reference's TiesFit and TiesJoin; draws of lists that are joined. No condition but that the lists have at most 1048576 elements. -/
import Derived.Test.YtihkdbgnoncgnaaAllSpec
import Derived.Test.YtihkdbgnoncgnaaDrawTT
namespace Go.Proofs.Ytihkdbgnoncgnaa
open Go.RowKit

/-- A list of at most mx pairs in new memory; of what was there the reader alone has moved. -/
def Got0 (w : World) (g : Nat) (l : List Int) (p dp mx : Nat) (e : Ending) (w' : World) : Prop :=
  ∃ A' c' M p', e = .returned (.slice A' M.length c') ∧ M.length ≤ mx ∧ w'.ownsRow w.heap.size 40 2 (.slice A' M.length c') M.length (cells2 M) ∧ Rdr w' g l p' ∧ p' ≤ p + dp ∧ w.grownBy w' (some g)
/-- Two lists of at most twelve pairs in new memory. -/
def DrawnTT (w : World) (e : Ending) (w' : World) : Prop :=
  ∃ A c L A' c' L', e = .returned (.tuple #[.slice A L.length c, .slice A' L'.length c']) ∧ L.length ≤ 12 ∧ L'.length ≤ 12 ∧
    w'.ownsRow w.heap.size 40 2 (.slice A L.length c) L.length (cells2 L) ∧ w'.ownsRow w.heap.size 40 2 (.slice A' L'.length c') L'.length (cells2 L') ∧ Below w.heap.size w w'
set_option maxHeartbeats 2000000 in
theorem specTiesFit_any (A B : Option Addr) (c d : Nat) (a b : List (Int × Int)) (w : World) (hr : Rd w w.heap.size A a) (hs : Rd w w.heap.size B b) (hn : a.length ≤ 1048576) (hm : b.length ≤ 1048576) :
    Calls Try.prog 23 #[.slice A a.length c, .slice B b.length d] w fun e w' => e = .returned (.bool (fitV a b)) ∧ Below w.heap.size w w' := by
  have HF := Lib.hid (fit_mg a b)
  go_enter Try.func23, Try.ntmps23
  go_wp2_with fail
  refine (specTiesValid_any A c a _ hr hn).mono ?_
  rintro e w1 ⟨rfl, b1⟩
  cases ha : tv a with
  | false =>
    have ef : fitV a b = false := by unfold fitV; rw [ha]; rfl
    have EF := Lib.hid ef
    clear ef ha
    go_wp2
    go_ret
    exact ⟨ret_bool EF.out.symm, b1⟩
  | true =>
    have la := tv_len ha
    have HA := Lib.hid ha
    clear ha
    go_wp2_with fail
    refine (specTiesValid_any B d b _ (hs.to b1) hm).mono ?_
    rintro e w2 ⟨rfl, b2⟩
    have b3 := b1.trans (b2.mono b1.size)
    cases hb : tv b with
    | false =>
      have ef : fitV a b = false := by unfold fitV; rw [hb, Bool.and_false]; rfl
      have EF := Lib.hid ef
      clear ef hb
      go_wp2
      go_ret
      exact ⟨ret_bool EF.out.symm, b3⟩
    | true =>
      have lb := tv_len hb
      have EF := Lib.hid (show fitV a b = asc (mg a b) by rw [← HF.out, HA.out, hb]; rfl)
      have hle := mg_len a b
      clear hb b1 b2
      go_wp2_with fail
      refine (l21All_any A B c d a b _ (hr.to b3) (hs.to b3) hn hm).mono ?_
      rintro e w4 ⟨A4, c4, rfl, o4, b4⟩
      have b5 := b3.trans (b4.mono b3.size)
      go_wp2_with fail
      refine (l21Order_any A4 c4 (mg a b) _ (Rd.of_own o4) (by omega)).mono ?_
      rintro e w6 ⟨rfl, b6⟩
      rw [← EF.out]
      go_wp2
      go_ret
      exact ⟨rfl, b5.trans (b6.mono b5.size)⟩
set_option maxHeartbeats 2000000 in
theorem specTiesJoin_any (A B : Option Addr) (c d : Nat) (a b : List (Int × Int)) (w : World) (hr : Rd w w.heap.size A a) (hs : Rd w w.heap.size B b) (hn : a.length ≤ 1048576) (hm : b.length ≤ 1048576) :
    Calls Try.prog 15 #[.slice A a.length c, .slice B b.length d] w (RetSB w 40 (jL a b) (jOk a b)) := by
  go_enter Try.func15, Try.ntmps15
  go_wp2_with fail
  refine (specTiesFit_any A B c d a b _ hr hs hn hm).mono ?_
  rintro e w1 ⟨rfl, b1⟩
  have o1 : (w1.alloc (.cells #[] 40)).ownsRow w.heap.size 40 2 (.slice (some ⟨w1.heap.size, 0, none⟩) 0 0) 0 [] := World.ownsRow_made w1 #[] 0 b1.size (by decide) rfl
  cases hf : fitV a b with
  | false =>
    have ef : jOk a b = false := by unfold jOk; rw [hf]; rfl
    clear hf
    go_wp2
    go_ret2
    rw [jL_no ef, ef]
    exact ⟨_, 0, rfl, o1, b1.alloc b1.size _⟩
  | true =>
    obtain ⟨f1, f2, _⟩ := fitV_iff.1 hf
    have la := tv_len f1
    have lb := tv_len f2
    have hle := mg_len a b
    have EJ := Lib.hid (show tv (mg a b) = jOk a b by rw [← jOk_mg, hf]; rfl)
    have EM := Lib.hid (mg_allV hf)
    clear hf f1 f2 o1
    go_wp2_with fail
    refine (l21All_any A B c d a b _ (hr.to b1) (hs.to b1) hn hm).mono ?_
    rintro e w2 ⟨A2, c2, rfl, o2, b2⟩
    have b3 := b1.trans (b2.mono b1.size)
    go_wp2_with fail
    refine (specTiesValid_any A2 c2 (mg a b) _ (Rd.of_own o2) (by omega)).mono ?_
    rintro e w4 ⟨rfl, b4⟩
    have b5 := b3.trans (b4.mono b3.size)
    rw [EJ.out]
    clear o2 b1 b2 b3 b4
    have o5 : (w4.alloc (.cells #[] 40)).ownsRow w.heap.size 40 2 (.slice (some ⟨w4.heap.size, 0, none⟩) 0 0) 0 [] := World.ownsRow_made w4 #[] 0 b5.size (by decide) rfl
    cases hj : jOk a b with
    | false =>
      go_wp2
      go_ret2
      rw [jL_no hj, hj]
      exact ⟨_, 0, rfl, o5, b5.alloc b5.size _⟩
    | true =>
      clear o5
      have HJ := Lib.hid hj
      clear hj
      go_wp2_with fail
      refine (l21All_any A B c d a b _ (hr.to b5) (hs.to b5) hn hm).mono ?_
      rintro e w6 ⟨A6, c6, rfl, o6, b6⟩
      have b7 := b5.trans (b6.mono b5.size)
      go_wp2
      go_ret2
      rw [jL_yes HJ.out, HJ.out, ← EM.out]
      exact ⟨A6, c6, rfl, own_base o6 b5.size, b7⟩

/-! ## draws -/
set_option maxHeartbeats 2000000 in
theorem l92Some_any (g : Nat) (A : Option Addr) (c : Nat) (l : List Int) (p : Nat) (L : List (Int × Int)) (w : World) (hrd : Rdr w g l p) (hp : p ≤ 10000) (hr : Rd w w.heap.size A L) (hg0 : ∀ b o, A = some ⟨b, o, none⟩ → b ≠ g) (hL : L.length ≤ 100) :
    Calls Try.prog 44 #[.pointer (some ⟨g, 0, none⟩), .slice A L.length c] w (Got0 w g l p L.length L.length) := by
  have hr0 := hrd.alloc (.cells #[] 40)
  have hg := hrd.lt
  have hG0 : w.grownBy (w.alloc (.cells #[] 40)) (some g) := grownBy_alloc (grownBy_refl _ _) _
  have ho0 : (w.alloc (.cells #[] 40)).ownsRow w.heap.size 40 2 (.slice (some ⟨w.heap.size, 0, none⟩) 0 0) 0 [] := World.ownsRow_made w #[] 0 (Nat.le_refl _) (by decide) rfl
  have HG := Lib.hid hg0
  clear hrd hg0
  go_enter Try.func44, Try.ntmps44
  go_wp2_with fail
  go_loopw [6, 5] (fun i v wr => ∃ (k : Nat) (M : List (Int × Int)) (p1 : Nat), k ≤ L.length ∧ i = .int .i64 k ∧ M.length ≤ k ∧ wr.ownsRow w.heap.size 40 2 v M.length (cells2 M) ∧ Rdr wr g l p1 ∧ p1 ≤ p + k ∧ w.grownBy wr (some g)) (fun i _ _ => L.length - (intOf i).toNat)
  case atStart => exact ⟨0, [], p, Nat.zero_le _, rfl, Nat.le_refl _, ho0, hr0, Nat.le_refl _, hG0⟩
  case round =>
    obtain ⟨k, M, p1, hk, rfl, hM, ho, hrd, hp1, hG⟩ := hrel
    clear ho0 hr0 hG0
    by_cases hlt : k < L.length
    · obtain ⟨b, o, hA, hB, hcs⟩ := hr (by omega)
      subst hA
      obtain ⟨q1, q2⟩ := hcs k hlt
      have hbg := HG.out b o rfl
      clear hcs hr
      have l1 : (0 : Int) ≤ (k : Int) ∧ (k : Int) < (L.length : Int) := by omega
      have hln : M.length + 1 ≤ 4294967296 := by omega
      go_wp2_with fail
      refine (pick_any g l p1 2 _ hrd (by omega) (by omega)).mono ?_
      rintro e w5 ⟨x, rfl, u1, u2, _, hr5, hg5⟩
      have ho5 := ho.kept hg5 (.inr (fun e => by have := (ho.lt _ e).1; omega))
      have hG5 := grownBy_then hG hg5 (fun j e => .inr e)
      have hbs : w.heap.size ≤ w5.heap.size := hG5.size
      have e1 : w5.cell? ⟨b, o + k * 2, none⟩ = some (.int .i64 (fA L k)) := (World.cell?_of_block (a := ⟨b, o + k * 2, none⟩) (hG5.block b hB (fun e => by injection e with e; exact hbg e))).trans q1
      have e2 : w5.cell? ⟨b, o + k * 2 + 1, none⟩ = some (.int .i64 (fB L k)) := (World.cell?_of_block (a := ⟨b, o + k * 2 + 1, none⟩) (hG5.block b hB (fun e => by injection e with e; exact hbg e))).trans q2
      clear ho hrd hG hg5 q1 q2
      generalize fA L k = x1 at *
      generalize fB L k = x2 at *
      by_cases hx : x = 0
      · subst hx
        go_wp2_with (at_builtin; refine wpList_app2_base rfl _ _ _ rfl Try.underlying23 infoTie rfl ho5 hbs _ _ _ _ (by rfl) rfl hln ?_; intro v1 w6 ho6 hg6 hat)
        have hr6 := (hr5.alloc (.cells #[.int .i64 x1, .int .i64 x2] 40)).grown hg6 (fun j e => by have := (ho5.lt j e).1; omega)
        have hG6 := grownBy_then (grownBy_alloc hG5 (.cells #[.int .i64 x1, .int .i64 x2] 40)) hg6 (fun j e => .inl (ho5.lt j e).1)
        exact ⟨⟨k + 1, M ++ [(x1, x2)], p1 + 1, hlt, by go_num, by simp; omega, ho6, hr6, by omega, hG6⟩, by simp [intOf]; omega⟩
      · have hx' : (x == 0) = false := by simpa using hx
        go_wp2
        exact ⟨⟨k + 1, M, p1 + 1, hlt, by go_num, by omega, ho5, hr5, by omega, hG5⟩, by simp [intOf]; omega⟩
    · go_wp2
      go_ret
      obtain ⟨AN, cN, rfl⟩ := own_shape ho
      exact ⟨AN, cN, M, p1, rfl, by omega, ho, hrd, by omega, hG⟩
set_option maxHeartbeats 2000000 in
theorem DrawTiesFit_any (A : Option Addr) (c : Nat) (l : List Int) (w : World) (hr : RdI w w.heap.size .u8 A l) (hby : ∀ x ∈ l, 0 ≤ x ∧ x ≤ 255) (hn : l.length ≤ 1048576) (hc : l.length ≤ c) (hc' : c ≤ 9223372036854775807) :
    Calls Try.prog 26 #[.slice A l.length c] w (DrawnTT w) := by
  have HB := Lib.hid hby
  clear hby
  go_enter Try.func26, Try.ntmps26
  go_wp2_with fail
  refine (open_any A c l _ hr HB.out hn hc hc').mono ?_
  rintro e w1 ⟨g, l1, rfl, hg, hrd, hb1⟩
  have s1 := hb1.size
  clear hr
  go_wp2_with fail
  refine (l92Ties_any g l1 0 _ hrd (by omega)).mono ?_
  rintro e w2 ⟨A2, c2, L, p2, rfl, hL, _, ho, hr2, hp2, hG⟩
  have s2 := hG.size
  have hb2 := below_of_two hb1 hG hg
  have hgl := hrd.lt
  clear hrd hG hb1
  go_wp2_with fail
  refine (pick_any g l1 p2 4 _ hr2 (by omega) (by omega)).mono ?_
  rintro e w3 ⟨x, rfl, u1, u2, _, hr3, hg3⟩
  have s3 := hg3.size
  have hb3 := below_of_two hb2 hg3 hg
  have ho3 := ho.kept hg3 (.inr (fun e => by have := (ho.lt g e).1; omega))
  clear ho hb2 hg3 hr2
  by_cases hx : x = 0
  · subst hx
    go_wp2_with fail
    refine (l92Ties_any g l1 (p2 + 1) _ hr3 (by omega)).mono ?_
    rintro e w4 ⟨A4, c4, M, p4, rfl, hM, _, ho4, hr4, hp4, hG4⟩
    have hb4 := below_of_two hb3 hG4 hg
    have hoa := ho3.kept hG4 (.inr (fun e => by have := (ho3.lt g e).1; omega))
    go_wp2
    go_ret2
    exact ⟨A2, c2, L, A4, c4, M, rfl, by omega, by omega, own_base hoa s1, own_base ho4 hb3.size, hb4⟩
  · have hx' : (x == 0) = false := by simpa using hx
    have rA := Rd.of_own ho3
    have hne : ∀ b o, A2 = some ⟨b, o, none⟩ → b ≠ g := fun b o e => by
      subst e
      rcases ho3.2 with ⟨h, _⟩ | ⟨g', cap, cur, hv, hb, _⟩
      · cases h
      · injection hv with h1 _ _
        injection h1 with h1
        injection h1 with h1 _ _
        omega
    have HN := Lib.hid hne
    clear hne
    go_wp2_with fail
    refine (l92Some_any g A2 c2 l1 (p2 + 1) L _ hr3 (by omega) rA HN.out (by omega)).mono ?_
    rintro e w4 ⟨A4, c4, M, p4, rfl, hM, ho4, hr4, hp4, hG4⟩
    have s4 := hG4.size
    have hb4 := below_of_two hb3 hG4 hg
    have hoa := ho3.kept hG4 (.inr (fun e => by have := (ho3.lt g e).1; omega))
    have rA4 := Rd.of_own hoa
    clear rA hr3 hb3 hG4 ho3
    go_wp2_with fail
    refine (l92Some_any g A2 c2 l1 p4 L _ hr4 (by omega) rA4 HN.out (by omega)).mono ?_
    rintro e w5 ⟨A5, c5, M5, p5, rfl, hM5, ho5, hr5, hp5, hG5⟩
    have hb5 := below_of_two hb4 hG5 hg
    have hob := ho4.kept hG5 (.inr (fun e => by have := (ho4.lt g e).1; omega))
    go_wp2
    go_ret2
    exact ⟨A5, c5, M5, A4, c4, M, rfl, by omega, by omega, own_base ho5 (by omega), own_base hob (by omega), hb5⟩
theorem apartU {v u : Value} (h : ∀ r, v.ownBlock = some r → u.ownBlock ≠ some r) : u.ownBlock = none ∨ u.ownBlock ≠ v.ownBlock := by
  cases hq : u.ownBlock with
  | none => exact .inl rfl
  | some r => exact .inr fun e => h r e.symm hq
theorem apartV {v u : Value} (h : ∀ r, v.ownBlock = some r → u.ownBlock ≠ some r) : v.ownBlock = none ∨ v.ownBlock ≠ u.ownBlock := by
  cases hq : v.ownBlock with
  | none => exact .inl rfl
  | some r => exact .inr fun e => h r hq e.symm
theorem apart1 {v v1 u : Value} {n : Nat} (h : ∀ r, v.ownBlock = some r → u.ownBlock ≠ some r) (h1 : v1.ownBlock = v.ownBlock ∨ v1.ownBlock = some n) (hu : ∀ r, u.ownBlock = some r → r < n) : ∀ r, v1.ownBlock = some r → u.ownBlock ≠ some r := fun r e1 e2 => by
  rcases h1 with h1 | h1
  · exact h r (h1 ▸ e1) e2
  · rw [h1] at e1
    injection e1 with e1
    have := hu r e2
    omega
theorem apart2 {v u u1 : Value} {n : Nat} (h : ∀ r, v.ownBlock = some r → u.ownBlock ≠ some r) (h1 : u1.ownBlock = u.ownBlock ∨ u1.ownBlock = some n) (hv : ∀ r, v.ownBlock = some r → r < n) : ∀ r, v.ownBlock = some r → u1.ownBlock ≠ some r := fun r e1 e2 => by
  rcases h1 with h1 | h1
  · exact h r e1 (h1 ▸ e2)
  · rw [h1] at e2
    injection e2 with e2
    have := hv r e1
    omega
set_option maxHeartbeats 4000000 in
theorem DrawTiesJoin_any (A : Option Addr) (c : Nat) (l : List Int) (w : World) (hr : RdI w w.heap.size .u8 A l) (hby : ∀ x ∈ l, 0 ≤ x ∧ x ≤ 255) (hn : l.length ≤ 1048576) (hc : l.length ≤ c) (hc' : c ≤ 9223372036854775807) :
    Calls Try.prog 13 #[.slice A l.length c] w (DrawnTT w) := by
  have HB := Lib.hid hby
  clear hby
  go_enter Try.func13, Try.ntmps13
  go_wp2_with fail
  refine (open_any A c l _ hr HB.out hn hc hc').mono ?_
  rintro e w1 ⟨g, l1, rfl, hg, hrd, hb1⟩
  go_wp2_with fail
  refine (pick_any g l1 0 12 _ hrd (by omega) (by omega)).mono ?_
  rintro e w2 ⟨x, rfl, u1, u2, _, hr2, hg2⟩
  have hb2 := below_of_two hb1 hg2 hg
  have r2 := hr.to hb2
  clear hrd hg2 hb1 hr hr2
  by_cases hx : x = 0
  · subst hx
    have hoa0 := (World.ownsRow_made (e := 40) (size := 2) w2 #[] 0 hb2.size (by decide) rfl).alloc (.cells #[] 40)
    have hob0 := World.ownsRow_made (base := w.heap.size) (e := 40) (size := 2) (w2.alloc (.cells #[] 40)) #[] 0 (by have := hb2.size; simp; omega) (by decide) rfl
    have hb3 := (hb2.alloc hb2.size (.cells #[] 40)).alloc (by have := hb2.size; simp; omega) (.cells #[] 40)
    rw [World.size_alloc] at hob0
    clear r2
    go_wp2_with fail
    go_loopw [7, 5, 6] (fun i v u wr => ∃ (k : Nat) (M N : List (Int × Int)), k ≤ 8 ∧ i = .int .i64 k ∧ M.length ≤ k ∧ N.length ≤ k ∧ wr.ownsRow w.heap.size 40 2 v M.length (cells2 M) ∧ wr.ownsRow w.heap.size 40 2 u N.length (cells2 N) ∧
        (∀ r, v.ownBlock = some r → u.ownBlock ≠ some r) ∧ Below w.heap.size w wr) (fun i _ _ _ => 8 - (intOf i).toNat)
    case atStart => exact ⟨0, [], [], Nat.zero_le _, rfl, Nat.le_refl _, Nat.le_refl _, hoa0, hob0, fun r e => by simp [Value.ownBlock] at e ⊢; omega, hb3⟩
    case round =>
      obtain ⟨k, M, N, hk, rfl, hM, hN, hoa, hob, hne, hb⟩ := hrel
      clear hoa0 hob0 hb3
      have hbs := hb.size
      by_cases hlt : k < 8
      · have hln : M.length + 1 ≤ 4294967296 := by omega
        have hln2 : N.length + 1 ≤ 4294967296 := by omega
        have s1 : IntKind.i64.wrap (2 * (k : Int)) = 2 * (k : Int) := IntWalk.i64_in _ (by omega)
        have s2 : IntKind.i64.wrap (2 * (k : Int) + 1) = 2 * (k : Int) + 1 := IntWalk.i64_in _ (by omega)
        have l1 : (k : Int) < 8 := by omega
        have HNE := Lib.hid hne
        clear hne
        go_wp2_with (at_builtin; first
          | (refine wpList_app2_base rfl _ _ _ rfl Try.underlying23 infoTie rfl hoa hbs _ _ _ _ (by rfl) rfl hln ?_; intro v1 w6 oa1 ga1 ha1; have ob1 := (hob.alloc (.cells #[.int .i64 (2 * (k : Int)), .int .i64 (2 * (k : Int))] 40)).kept ga1 (apartU HNE.out); have b6 := (hb.alloc hbs (.cells #[.int .i64 (2 * (k : Int)), .int .i64 (2 * (k : Int))] 40)).grown ga1 (by simp; omega) (fun j e => (hoa.lt j e).1); have bs6 := b6.size)
          | (refine wpList_app2_base rfl _ _ _ rfl Try.underlying23 infoTie rfl ob1 bs6 _ _ _ _ (by rfl) rfl hln2 ?_; intro v2 w7 ob2 gb2 hb2'))
        have ne1 := apart1 HNE.out ha1 (fun r e => by have := (hob.lt r e).2; omega)
        have b7 := (b6.alloc bs6 (.cells #[.int .i64 (2 * (k : Int) + 1), .int .i64 (2 * (k : Int) + 1)] 40)).grown gb2 (by simp; omega) (fun j e => (ob1.lt j e).1)
        have oa2 := (oa1.alloc (.cells #[.int .i64 (2 * (k : Int) + 1), .int .i64 (2 * (k : Int) + 1)] 40)).kept gb2 (apartV ne1)
        have ne2 := apart2 ne1 hb2' (fun r e => by have := (oa1.lt r e).2; omega)
        exact ⟨⟨k + 1, M ++ [(2 * (k : Int), 2 * (k : Int))], N ++ [(2 * (k : Int) + 1, 2 * (k : Int) + 1)], hlt, by go_num, by simp; omega, by simp; omega, oa2, ob2, ne2, b7⟩, by simp [intOf]; omega⟩
      · go_wp2
        go_ret2
        obtain ⟨A4, c4, rfl⟩ := own_shape hoa
        obtain ⟨A5, c5, rfl⟩ := own_shape hob
        exact ⟨A4, c4, M, A5, c5, N, rfl, by omega, by omega, hoa, hob, hb⟩
  · have hx' : (x == 0) = false := by simpa using hx
    go_wp2_with fail
    refine (DrawTiesFit_any A c l _ r2 HB.out hn hc hc').mono ?_
    rintro e w3 ⟨A4, c4, L, A5, c5, M, rfl, hL, hM, o4, o5, b3⟩
    go_wp2
    go_ret2
    exact ⟨A4, c4, L, A5, c5, M, rfl, hL, hM, own_base o4 hb2.size, own_base o5 hb2.size, hb2.trans (b3.mono hb2.size)⟩
end Go.Proofs.Ytihkdbgnoncgnaa
