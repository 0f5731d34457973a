/- Contracts of MatchOk, in the program and in the reference. No condition but that the lists have at most 1048576 elements. -/
import Derived.Test.YtihkdbgnoncgnaaPlan
import Derived.Test.YtihkdbgnoncgnaaAlike
import Derived.Test.YtihkdbgnoncgnaaMatchMore
import Derived.Test.YtihkdbgnoncgnaaMM
namespace Go.Proofs.Ytihkdbgnoncgnaa
open Go.RowKit

def okV (a b : List (Int × Int)) (t : Int) (ms : List Int) : Bool := mtb a b t && mOk t (szL b) (szL a) ms (-1)
/-- What is left from place k on decides. -/
def okAt (a b : List (Int × Int)) (t : Int) (ms : List Int) (k : Nat) (lst : Int) : Prop := mOk t (szL b) (szL a) ms (-1) = mOk t (szL b) ((szL a).drop k) (ms.drop k) lst
section
variable {a b : List (Int × Int)} {t : Int} {ms : List Int} {k : Nat} {lst : Int}
theorem okAt_start : okAt a b t ms 0 (-1) := rfl
theorem okAt_skip (h : okAt a b t ms k lst) (ha : k < a.length) (hk : k < ms.length) (hm : gI ms k = -1) : okAt a b t ms (k + 1) lst := by
  unfold okAt at h ⊢
  rw [h, mOk_at _ _ _ _ _ k (by rw [length_szL]; exact ha) hk, if_pos hm]
theorem okAt_no (h : okAt a b t ms k lst) (ha : k < a.length) (hk : k < ms.length) (hm : gI ms k ≠ -1) (hn : (gI ms k ≤ lst ∨ (b.length : Int) ≤ gI ms k) ∨ lk t (fB a k) (fB b (gI ms k).toNat) = false) : mOk t (szL b) (szL a) ms (-1) = false := by
  unfold okAt at h
  rw [h, mOk_at _ _ _ _ _ k (by rw [length_szL]; exact ha) hk, if_neg hm, length_szL, gI_szL, gI_szL]
  rcases hn with (hn | hn) | hn
  · rw [decide_eq_false (by omega : ¬ lst < gI ms k)]; simp
  · rw [decide_eq_false (by omega : ¬ gI ms k < (b.length : Int))]; simp
  · rw [hn]; simp
theorem okAt_yes (h : okAt a b t ms k lst) (ha : k < a.length) (hk : k < ms.length) (hm : gI ms k ≠ -1) {p : Nat} (hp : gI ms k = p) (h1 : lst < p) (h2 : p < b.length) (h3 : lk t (fB a k) (fB b p) = true) : okAt a b t ms (k + 1) p := by
  unfold okAt at h ⊢
  rw [h, mOk_at _ _ _ _ _ k (by rw [length_szL]; exact ha) hk, if_neg hm, length_szL, gI_szL, gI_szL, hp, Int.toNat_natCast, h3, decide_eq_true h1, decide_eq_true (by omega : (p : Int) < (b.length : Int))]
  simp
theorem okAt_end (h : okAt a b t ms k lst) (ha : a.length ≤ k) (hk : ms.length ≤ k) : mOk t (szL b) (szL a) ms (-1) = true := by
  unfold okAt at h
  rw [h, List.drop_eq_nil_of_le (by rw [length_szL]; exact ha), List.drop_eq_nil_of_le hk, mOk]
theorem okAt_len (h : ¬ ms.length = a.length) : mOk t (szL b) (szL a) ms (-1) = false := by
  cases hm : mOk t (szL b) (szL a) ms (-1) with
  | false => rfl
  | true => have := mOk_len hm; rw [length_szL] at this; exact absurd this h
end

set_option maxRecDepth 100000 in
set_option maxHeartbeats 4000000 in
theorem matchOk_any (A B C : Option Addr) (ca cb cc : Nat) (a b : List (Int × Int)) (t : Int) (ms : List Int) (w : World) (hr : Rd w w.heap.size A a) (hs : Rd w w.heap.size B b) (hq : RdI w w.heap.size .i64 C ms) (hn : a.length ≤ 1048576) (hm : b.length ≤ 1048576) :
    Calls Try.prog 46 #[.slice A a.length ca, .slice B b.length cb, .int .i64 t, .slice C ms.length cc] w fun e w' => e = .returned (.bool (okV a b t ms)) ∧ Below w.heap.size w w' := by
  go_enter Try.func46, Try.ntmps46
  go_wp2_with fail
  refine (matchable_any A B ca cb a b t _ hr hs hn hm).mono ?_
  rintro e w1 ⟨rfl, h1⟩
  cases hv : mtb a b t with
  | false =>
    go_wp2
    go_ret
    exact ⟨ret_bool (by simp [okV, hv]), h1⟩
  | true =>
    obtain ⟨va, vb, _, _⟩ := mtb_parts hv
    have HV := Lib.hid hv
    have la := ev_len va
    have lb := ev_len vb
    have VA := Lib.hid va
    have VB := Lib.hid vb
    clear hv va vb
    by_cases hlen : ms.length = a.length
    · have g0 : ((ms.length : Int) != (a.length : Int)) = false := by simp [hlen]
      have l1 : ms.length ≤ a.length := by omega
      have l2 : a.length ≤ ms.length := by omega
      have HL := Lib.hid hlen
      clear hlen
      go_wp2_with fail
      go_loopw [26, 9] (fun i v wr => ∃ (k : Nat) (lst : Int), k ≤ ms.length ∧ i = .int .i64 k ∧ v = .int .i64 lst ∧ (-1 ≤ lst ∧ lst ≤ b.length) ∧ okAt a b t ms k lst ∧ Below w.heap.size w wr) (fun i _ _ => ms.length - (intOf i).toNat)
      case atStart => exact ⟨0, -1, Nat.zero_le _, rfl, rfl, ⟨by omega, by omega⟩, okAt_start, h1⟩
      case round =>
        obtain ⟨k, lst, hk, rfl, rfl, ⟨hl0, hl1⟩, hok, hb⟩ := hrel
        have HK := Lib.hid hok
        clear hok h1
        by_cases hlt : k < ms.length
        · obtain ⟨bm, om, hC, hCB, hcC⟩ := (hq.below hb) (by omega)
          obtain ⟨bA, oA, hA, hAB, hcA⟩ := (hr.below hb) (by omega)
          subst hA hC
          have e0 := hcC k hlt
          obtain ⟨e1, e2⟩ := hcA k (by omega)
          have z1 := ev_size VA.out (k := k) (by omega)
          have l5 : (k : Int) < (a.length : Int) := by omega
          have l6 : (k : Int) < (ms.length : Int) := by omega
          have l7 : (0 : Int) ≤ (k : Int) := by omega
          have gA : bA < wr.heap.size := by have := hb.size; omega
          have gC : bm < wr.heap.size := by have := hb.size; omega
          clear hcA hcC
          by_cases hm1 : gI ms k = -1
          · have hn1 := okAt_skip HK.out (by omega) hlt hm1
            have HN := Lib.hid hn1
            rw [hm1] at e0
            clear hn1 hm1
            go_wp2
            exact ⟨⟨k + 1, lst, hlt, by go_num, rfl, ⟨hl0, hl1⟩, HN.out, hb⟩, by simp [intOf]; omega⟩
          · have g1 : (gI ms k == -1) = false := by simpa using hm1
            by_cases hm2 : gI ms k ≤ lst ∨ (b.length : Int) ≤ gI ms k
            · have hf := okAt_no HK.out (by omega) hlt hm1 (.inl hm2)
              have HF := Lib.hid hf
              clear hf hm1
              by_cases hm3 : gI ms k ≤ lst
              · clear hm2
                go_wp2_with fail
                refine wp_region_bw (by kernel_rfl) (by kernel_rfl) ?_
                repeat (go_big_quiet_step (fail))
                refine wpQuiet_nil ?_
                intro wx hx
                go_wp2
                go_ret
                exact ⟨ret_bool (by simp [okV, HF.out]), hb.trans (hx.mono hb.size)⟩
              · have g2 : decide (gI ms k ≤ lst) = false := decide_eq_false hm3
                have g3 : decide ((b.length : Int) ≤ gI ms k) = true := decide_eq_true (by omega)
                have g4 : (b.length : Int) ≤ gI ms k := by omega
                clear hm2 hm3
                go_wp2_with fail
                refine wp_region_bw (by kernel_rfl) (by kernel_rfl) ?_
                repeat (go_big_quiet_step (fail))
                refine wpQuiet_nil ?_
                intro wx hx
                go_wp2
                go_ret
                exact ⟨ret_bool (by simp [okV, HF.out]), hb.trans (hx.mono hb.size)⟩
            · obtain ⟨p, hp⟩ := Int.eq_ofNat_of_zero_le (show 0 ≤ gI ms k by omega)
              rw [hp] at e0 hm2 g1
              have hpb : p < b.length := by omega
              have hpl : lst < (p : Int) := by omega
              obtain ⟨bB, oB, hB, hBB, hcB⟩ := (hs.below hb) (by omega)
              subst hB
              obtain ⟨e3, e4⟩ := hcB p hpb
              have z2 := ev_size VB.out hpb
              have gB : bB < wr.heap.size := by have := hb.size; omega
              have l8 : (p : Int) < (b.length : Int) := by omega
              have l9 : (0 : Int) ≤ (p : Int) := by omega
              have HP := Lib.hid hp
              have g2 : decide ((p : Int) ≤ lst) = false := decide_eq_false (by omega)
              have g3 : decide (b.length ≤ p) = false := decide_eq_false (by omega)
              cases hlk : lk t (fB a k) (fB b p) with
              | true =>
                have hn1 := okAt_yes HK.out (by omega) hlt hm1 hp hpl hpb hlk
                have HN := Lib.hid hn1
                clear hn1 hm1 hm2 hcB hp
                go_wp2_with fail
                refine wp_region_bw (by kernel_rfl) (by kernel_rfl) ?_
                repeat (go_big_quiet_step ((go_at_call 60; exact bw_ret (alike_is hlk _ (by omega) (by omega) (by omega) (by omega)))))
                refine wpQuiet_nil ?_
                intro wx hx
                go_wp2
                exact ⟨⟨k + 1, p, hlt, by go_num, rfl, ⟨by omega, by omega⟩, HN.out, hb.trans (hx.mono hb.size)⟩, by simp [intOf]; omega⟩
              | false =>
                have hf := okAt_no HK.out (by omega) hlt hm1 (.inr (by rw [hp, Int.toNat_natCast]; exact hlk))
                have HF := Lib.hid hf
                clear hf hm1 hm2 hcB hp
                go_wp2_with fail
                refine wp_region_bw (by kernel_rfl) (by kernel_rfl) ?_
                repeat (go_big_quiet_step ((go_at_call 60; exact bw_ret (alike_is hlk _ (by omega) (by omega) (by omega) (by omega)))))
                refine wpQuiet_nil ?_
                intro wx hx
                go_wp2
                go_ret
                exact ⟨ret_bool (by simp [okV, HF.out]), hb.trans (hx.mono hb.size)⟩
        · have ht := okAt_end HK.out (by omega) (by omega)
          go_wp2
          go_ret
          exact ⟨ret_bool (by simp [okV, HV.out, ht]), hb⟩
    · have g0 : ((ms.length : Int) != (a.length : Int)) = true := by simp; omega
      have hf : mOk t (szL b) (szL a) ms (-1) = false := okAt_len hlen
      have HF := Lib.hid hf
      clear hf hlen
      go_wp2
      go_ret
      exact ⟨ret_bool (by simp [okV, HF.out]), h1⟩

set_option maxRecDepth 100000 in
set_option maxHeartbeats 4000000 in
theorem specMatchOk_any (A B C : Option Addr) (ca cb cc : Nat) (a b : List (Int × Int)) (t : Int) (ms : List Int) (w : World) (hr : Rd w w.heap.size A a) (hs : Rd w w.heap.size B b) (hq : RdI w w.heap.size .i64 C ms) (hn : a.length ≤ 1048576) (hm : b.length ≤ 1048576) :
    Calls Try.prog 47 #[.slice A a.length ca, .slice B b.length cb, .int .i64 t, .slice C ms.length cc] w fun e w' => e = .returned (.bool (okV a b t ms)) ∧ Below w.heap.size w w' := by
  go_enter Try.func47, Try.ntmps47
  go_wp2_with fail
  refine (l16Ok_any A B ca cb a b t _ hr hs hn hm).mono ?_
  rintro e w1 ⟨rfl, h1⟩
  cases hv : mtb a b t with
  | false =>
    go_wp2
    go_ret
    exact ⟨ret_bool (by simp [okV, hv]), h1⟩
  | true =>
    obtain ⟨va, vb, _, _⟩ := mtb_parts hv
    have HV := Lib.hid hv
    have la := ev_len va
    have lb := ev_len vb
    have VA := Lib.hid va
    have VB := Lib.hid vb
    clear hv va vb
    by_cases hlen : ms.length = a.length
    · have g0 : ((ms.length : Int) != (a.length : Int)) = false := by simp [hlen]
      have l1 : ms.length ≤ a.length := by omega
      have l2 : a.length ≤ ms.length := by omega
      have HL := Lib.hid hlen
      clear hlen
      go_wp2_with fail
      go_loopw [10, 9] (fun i v wr => ∃ (k : Nat) (lst : Int), k ≤ ms.length ∧ i = .int .i64 k ∧ v = .int .i64 lst ∧ (-1 ≤ lst ∧ lst ≤ b.length) ∧ okAt a b t ms k lst ∧ Below w.heap.size w wr) (fun i _ _ => ms.length - (intOf i).toNat)
      case atStart => exact ⟨0, -1, Nat.zero_le _, rfl, rfl, ⟨by omega, by omega⟩, okAt_start, h1⟩
      case round =>
        obtain ⟨k, lst, hk, rfl, rfl, ⟨hl0, hl1⟩, hok, hb⟩ := hrel
        have HK := Lib.hid hok
        clear hok h1
        by_cases hlt : k < ms.length
        · obtain ⟨bm, om, hC, hCB, hcC⟩ := (hq.below hb) (by omega)
          obtain ⟨bA, oA, hA, hAB, hcA⟩ := (hr.below hb) (by omega)
          subst hA hC
          have e0 := hcC k hlt
          obtain ⟨e1, e2⟩ := hcA k (by omega)
          have z1 := ev_size VA.out (k := k) (by omega)
          have l5 : (k : Int) < (a.length : Int) := by omega
          have l6 : (k : Int) < (ms.length : Int) := by omega
          have l7 : (0 : Int) ≤ (k : Int) := by omega
          have gA : bA < wr.heap.size := by have := hb.size; omega
          have gC : bm < wr.heap.size := by have := hb.size; omega
          clear hcA hcC
          have s1 : IntKind.i64.wrap (lst + 1) = lst + 1 := IntWalk.i64_in _ (by omega)
          have s2 : IntKind.i64.wrap ((b.length : Int) - 1) = (b.length : Int) - 1 := IntWalk.i64_in _ (by omega)
          by_cases hm1 : gI ms k = -1
          · have hn1 := okAt_skip HK.out (by omega) hlt hm1
            have HN := Lib.hid hn1
            rw [hm1] at e0
            clear hn1 hm1
            go_wp2
            exact ⟨⟨k + 1, lst, hlt, by go_num, rfl, ⟨hl0, hl1⟩, HN.out, hb⟩, by simp [intOf]; omega⟩
          · have g1 : (gI ms k == -1) = false := by simpa using hm1
            by_cases hm2 : gI ms k ≤ lst ∨ (b.length : Int) ≤ gI ms k
            · have hf := okAt_no HK.out (by omega) hlt hm1 (.inl hm2)
              have HF := Lib.hid hf
              clear hf hm1
              have g2 : (decide (lst + 1 ≤ gI ms k) && decide (gI ms k ≤ (b.length : Int) - 1)) = false := by rw [← Bool.decide_and]; exact decide_eq_false (by omega)
              clear hm2
              go_wp2_with fail
              refine wp_region_bw (by kernel_rfl) (by kernel_rfl) ?_
              repeat (go_big_quiet_step ((first | (go_at_call 62; exact bw_ret ((l6In_any _ _ _ _).mono fun _ _ h => ⟨h.1, h.2 ▸ Below.refl _ _⟩)))))
              refine wpQuiet_nil ?_
              intro wx hx
              go_wp2
              go_ret
              exact ⟨ret_bool (by simp [okV, HF.out]), hb.trans (hx.mono hb.size)⟩
            · obtain ⟨p, hp⟩ := Int.eq_ofNat_of_zero_le (show 0 ≤ gI ms k by omega)
              rw [hp] at e0 hm2 g1
              have hpb : p < b.length := by omega
              have hpl : lst < (p : Int) := by omega
              obtain ⟨bB, oB, hB, hBB, hcB⟩ := (hs.below hb) (by omega)
              subst hB
              obtain ⟨e3, e4⟩ := hcB p hpb
              have z2 := ev_size VB.out hpb
              have gB : bB < wr.heap.size := by have := hb.size; omega
              have l8 : (p : Int) < (b.length : Int) := by omega
              have l9 : (0 : Int) ≤ (p : Int) := by omega
              have HP := Lib.hid hp
              have g2 : (decide (lst + 1 ≤ (p : Int)) && decide ((p : Int) ≤ (b.length : Int) - 1)) = true := by rw [← Bool.decide_and]; exact decide_eq_true (by omega)
              cases hlk : lk t (fB a k) (fB b p) with
              | true =>
                have hn1 := okAt_yes HK.out (by omega) hlt hm1 hp hpl hpb hlk
                have HN := Lib.hid hn1
                clear hn1 hm1 hm2 hcB hp
                go_wp2_with fail
                refine wp_region_bw (by kernel_rfl) (by kernel_rfl) ?_
                repeat (go_big_quiet_step ((first | (go_at_call 62; exact bw_ret ((l6In_any _ _ _ _).mono fun _ _ h => ⟨h.1, h.2 ▸ Below.refl _ _⟩)) | (go_at_call 63; exact bw_ret (l16Like_is hlk _ (by omega) (by omega) (by omega) (by omega))))))
                refine wpQuiet_nil ?_
                intro wx hx
                have e5 : wx.cell? ⟨bm, om + k, none⟩ = some (.int .i64 (p : Int)) := (hx.cell (p := ⟨bm, _, none⟩) gC).trans e0
                go_wp2
                exact ⟨⟨k + 1, p, hlt, by go_num, rfl, ⟨by omega, by omega⟩, HN.out, hb.trans (hx.mono hb.size)⟩, by simp [intOf]; omega⟩
              | false =>
                have hf := okAt_no HK.out (by omega) hlt hm1 (.inr (by rw [hp, Int.toNat_natCast]; exact hlk))
                have HF := Lib.hid hf
                clear hf hm1 hm2 hcB hp
                go_wp2_with fail
                refine wp_region_bw (by kernel_rfl) (by kernel_rfl) ?_
                repeat (go_big_quiet_step ((first | (go_at_call 62; exact bw_ret ((l6In_any _ _ _ _).mono fun _ _ h => ⟨h.1, h.2 ▸ Below.refl _ _⟩)) | (go_at_call 63; exact bw_ret (l16Like_is hlk _ (by omega) (by omega) (by omega) (by omega))))))
                refine wpQuiet_nil ?_
                intro wx hx
                go_wp2
                go_ret
                exact ⟨ret_bool (by simp [okV, HF.out]), hb.trans (hx.mono hb.size)⟩
        · have ht := okAt_end HK.out (by omega) (by omega)
          go_wp2
          go_ret
          exact ⟨ret_bool (by simp [okV, HV.out, ht]), hb⟩
    · have g0 : ((ms.length : Int) != (a.length : Int)) = true := by simp; omega
      have hf : mOk t (szL b) (szL a) ms (-1) = false := okAt_len hlen
      have HF := Lib.hid hf
      clear hf hlen
      go_wp2
      go_ret
      exact ⟨ret_bool (by simp [okV, HF.out]), h1⟩

end Go.Proofs.Ytihkdbgnoncgnaa
