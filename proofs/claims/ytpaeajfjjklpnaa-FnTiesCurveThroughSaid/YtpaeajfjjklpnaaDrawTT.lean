/- Contract of the function that draws two lists of ties that lead through one another: two lists of small pairs in new memory. No condition but the code's length. -/
import Derived.Test.YtpaeajfjjklpnaaDrawT
import Derived.Test.YtpaeajfjjklpnaaObj
namespace Go.Proofs.Ytpaeajfjjklpnaa
open Go.RowKit

/-- Two lists of at most mx small pairs in new memory. -/
def DrawnSS (w : World) (E : TypeId) (mx : Nat) (B : Int) (e : Ending) (w' : World) : Prop :=
  ∃ A c L A' c' L', e = .returned (.tuple #[.slice A L.length c, .slice A' L'.length c']) ∧ L.length ≤ mx ∧ L'.length ≤ mx ∧ Small B L ∧ Small B L' ∧
    w'.ownsRow w.heap.size E 2 (.slice A L.length c) L.length (cells2 L) ∧ w'.ownsRow w.heap.size E 2 (.slice A' L'.length c') L'.length (cells2 L') ∧ Below w.heap.size w w'

set_option maxHeartbeats 4000000 in
theorem DrawTiesThrough_any (A : Option Addr) (c : Nat) (l : List Int) (w : World) (hr : RdI w w.heap.size .u8 A l) (hby : ∀ x ∈ l, 0 ≤ x ∧ x ≤ 255) (hn : l.length ≤ 1048576) (hc : l.length ≤ c) (hc' : c ≤ 9223372036854775807) :
    Calls Try.prog 11 #[.slice A l.length c] w (DrawnSS w 30 7 100001) := by
  have HB := Lib.hid hby
  clear hby
  go_enter Try.func11, Try.ntmps11
  go_wp2_with fail
  refine (open_any A c l _ hr HB.out hn hc hc').mono ?_
  rintro e w1 ⟨g, l1, rfl, hg, hrd, hb1⟩
  have s1 := hb1.size
  clear hr
  go_wp2_with fail
  refine (l92Ties_any g l1 0 _ hrd (by omega)).mono ?_
  rintro e w2 ⟨A2, c2, L, p2, rfl, hL, hsm, ho, hr2, hp2, hG⟩
  have s2 := hG.size
  have hb2 := below_of_two hb1 hG hg
  have hgl := hrd.lt
  clear hrd hG hb1
  go_wp2_with fail
  refine (l92Ties_any g l1 p2 _ hr2 (by omega)).mono ?_
  rintro e w3 ⟨A3, c3, L3, p3, rfl, hL3, hsm3, ho3, hr3, hp3, hG3⟩
  have s3 := hG3.size
  have hb3 := below_of_two hb2 hG3 hg
  have hoa := ho.kept hG3 (.inr (fun e => by have := (ho.lt g e).1; omega))
  have hob := own_base ho3 (show w1.heap.size ≤ w2.heap.size by omega)
  clear hb2 hG3 ho hr2 ho3
  go_wp2_with fail
  refine (pick_any g l1 p3 2 _ hr3 (by omega) (by omega)).mono ?_
  rintro e w4 ⟨x, rfl, u1, u2, _, hr4, hg4⟩
  have s4 := hg4.size
  have hb4 := below_of_two hb3 hg4 hg
  have hoa4 := hoa.kept hg4 (.inr (fun e => by have := (hoa.lt g e).1; omega))
  have hob4 := hob.kept hg4 (.inr (fun e => by have := (hob.lt g e).1; omega))
  clear hoa hob hb3 hg4 hr3
  by_cases hx : x = 0
  · subst hx
    have hr5 := hr4.alloc (.cells #[] 30)
    have hb5 := hb4.alloc hb4.size (.cells #[] 30)
    have hoa5 := hoa4.alloc (.cells #[] 30)
    have hoc5 : (w4.alloc (.cells #[] 30)).ownsRow w1.heap.size 30 2 (.slice (some ⟨w4.heap.size, 0, none⟩) 0 0) 0 [] := World.ownsRow_made w4 #[] 0 (by omega) (by decide) rfl
    have hne5 : (Value.slice A2 L.length c2).ownBlock ≠ some w4.heap.size := fun e => by have := (hoa4.lt _ e).2; omega
    clear hr4 hb4 hob4 hoa4
    go_wp2_with fail
    refine (pick_any g l1 (p3 + 1) 6 _ hr5 (by omega) (by omega)).mono ?_
    rintro e w6 ⟨y, rfl, v1, v2, _, hr6, hg6⟩
    have s6 := hg6.size
    have hs5 : (w4.alloc (.cells #[] 30)).heap.size = w4.heap.size + 1 := by simp
    have hb6 := below_of_two hb5 hg6 hg
    have hoa6 := hoa5.kept hg6 (.inr (fun e => by have := (hoa5.lt g e).1; omega))
    have hoc6 := hoc5.kept hg6 (.inr (by simp [Value.ownBlock]; omega))
    clear hr5 hb5 hoa5 hoc5 hg6
    go_wp2_with fail
    go_loopw [8, 7, 6] (fun i at_ v wr => ∃ (k : Nat) (N : List (Int × Int)) (t : Int) (p1 : Nat), k ≤ L.length ∧ i = .int .i64 k ∧ at_ = .int .i64 t ∧ N.length ≤ k ∧ Small 100001 N ∧ 0 ≤ t ∧ t ≤ 10 + 10 * k ∧
        wr.ownsRow w1.heap.size 30 2 v N.length (cells2 N) ∧ wr.ownsRow w1.heap.size 30 2 (.slice A2 L.length c2) L.length (cells2 L) ∧ ((Value.slice A2 L.length c2).ownBlock = none ∨ (Value.slice A2 L.length c2).ownBlock ≠ v.ownBlock) ∧
        Rdr wr g l1 p1 ∧ p1 ≤ p3 + 2 + 2 * k ∧ Below w.heap.size w wr ∧ w1.heap.size ≤ wr.heap.size) (fun i _ _ _ => L.length - (intOf i).toNat)
    case atStart => exact ⟨0, [], y, p3 + 2, Nat.zero_le _, rfl, rfl, Nat.le_refl _, Small.nil_, v1, by omega, hoc6, hoa6, .inr (by simpa [Value.ownBlock] using hne5), hr6, by omega, hb6, by omega⟩
    case round =>
      obtain ⟨k, N, t, p1, hk, rfl, rfl, hN, hsN, t0, t1, hoN, hoL, hne, hrd, hp1, hb, hsz⟩ := hrel
      clear hoc6 hoa6 hr6 hb6 hne5
      by_cases hlt : k < L.length
      · obtain ⟨ga, ca, hva, hga, hgal⟩ := hoL.form (by omega)
        injection hva with hA2 _ hc2
        subst hA2 hc2
        go_wp2_with fail
        refine (pick_any g l1 p1 3 _ hrd (by omega) (by omega)).mono ?_
        rintro e w7 ⟨z, rfl, z1, z2, _, hr7, hg7⟩
        have s7 := hg7.size
        have hb7 := below_of_two hb hg7 hg
        have hoN7 := hoN.kept hg7 (.inr (fun e => by have := (hoN.lt g e).1; omega))
        have hoL7 := hoL.kept hg7 (.inr (fun e => by have := (hoL.lt g e).1; omega))
        clear hb hoN hoL hrd hg7
        obtain ⟨m1, m2, m3, m4⟩ := hsm.at_ hlt
        by_cases hz : 0 < z
        · have q2 := (hoL7.cellAt (k * 2 + 1) (by omega)).trans (cells2_get L k hlt).2
          have hln : N.length + 1 ≤ 4294967296 := by omega
          have hsz7 : w1.heap.size ≤ w7.heap.size := by omega
          have hkl : (k : Int) < (L.length : Int) := by omega
          go_wp2_with (at_builtin; refine wpList_app2_base rfl _ _ _ rfl Try.underlying23 infoTie rfl hoN7 hsz7 _ _ _ _ (by rfl) rfl hln ?_; intro v8 w8 ho8 hg8 hat)
          have s8 := hg8.size
          have hs7 : (w7.alloc (.cells #[.int .i64 (fB L k), .int .i64 t] 30)).heap.size = w7.heap.size + 1 := by simp
          have hr8 := (hr7.alloc (.cells #[.int .i64 (fB L k), .int .i64 t] 30)).grown hg8 (fun j e => by have := (hoN7.lt j e).1; omega)
          have hb8 := (hb7.alloc hb7.size (.cells #[.int .i64 (fB L k), .int .i64 t] 30)).grown hg8 (hb7.alloc hb7.size _).size (fun j e => by have := (hoN7.lt j e).1; omega)
          have hoL8 := (hoL7.alloc (.cells #[.int .i64 (fB L k), .int .i64 t] 30)).kept hg8 hne
          have hne8 : (Value.slice (some ⟨ga, 0, none⟩) L.length c2).ownBlock = none ∨ (Value.slice (some ⟨ga, 0, none⟩) L.length c2).ownBlock ≠ v8.ownBlock := by
            rcases hat with e | e <;> rw [e]
            · exact hne
            · exact .inr (by simp [Value.ownBlock]; have := (hoL7.lt ga rfl).2; omega)
          clear hg8 hat hb7 hoN7 hoL7 hr7 hne q2
          go_wp2_with fail
          refine (pick_any g l1 (p1 + 1) 4 _ hr8 (by omega) (by omega)).mono ?_
          rintro e w9 ⟨z', rfl, z3, z4, _, hr9, hg9⟩
          have s9 := hg9.size
          have hb9 := below_of_two hb8 hg9 hg
          have hoN9 := ho8.kept hg9 (.inr (fun e => by have := (ho8.lt g e).1; omega))
          have hoL9 := hoL8.kept hg9 (.inr (fun e => by have := (hoL8.lt g e).1; omega))
          go_wp2
          exact ⟨⟨k + 1, N ++ [(fB L k, t)], t + 1 + z', p1 + 2, hlt, by go_num, rfl, by rw [List.length_append]; simp; omega, hsN.snoc m3 (by omega) t0 (by omega), by omega, by omega, hoN9, hoL9, hne8, hr9, by omega, hb9, by omega⟩, by simp [intOf]; omega⟩
        · have hz' : z = 0 := by omega
          subst hz'
          go_wp2_with fail
          refine (pick_any g l1 (p1 + 1) 4 _ hr7 (by omega) (by omega)).mono ?_
          rintro e w9 ⟨z', rfl, z3, z4, _, hr9, hg9⟩
          have s9 := hg9.size
          have hb9 := below_of_two hb7 hg9 hg
          have hoN9 := hoN7.kept hg9 (.inr (fun e => by have := (hoN7.lt g e).1; omega))
          have hoL9 := hoL7.kept hg9 (.inr (fun e => by have := (hoL7.lt g e).1; omega))
          go_wp2
          exact ⟨⟨k + 1, N, t + 1 + z', p1 + 2, hlt, by go_num, rfl, by omega, hsN, by omega, by omega, hoN9, hoL9, hne, hr9, by omega, hb9, by omega⟩, by simp [intOf]; omega⟩
      · go_wp2
        go_ret2
        obtain ⟨AN, cN, rfl⟩ := own_shape hoN
        exact ⟨A2, c2, L, AN, cN, N, rfl, hL, by omega, hsm.more (by decide), hsN, own_base hoL s1, own_base hoN s1, hb⟩
  · have hx' : (x == 0) = false := by simpa using hx
    go_wp2
    go_ret2
    exact ⟨A2, c2, L, A3, c3, L3, rfl, hL, hL3, hsm.more (by decide), hsm3.more (by decide), own_base hoa4 s1, own_base hob4 s1, hb4⟩

end Go.Proofs.Ytpaeajfjjklpnaa
