/- The document's answer of layer 12 (valid): Passing, check. -/
import Derived.Test.YtlphjjekamhnlaaDoorDvA
import Derived.Test.YtlphjjekamhnlaaDoorVpD
namespace Go.Proofs.YtlphjjekamhnlaaDoor
open Go.RowKit Go.Sort
attribute [local go_sem] Oper.semAt_some

namespace Y
theorem passHit_iff (c : Nat → Int) (s : Nat) (t : Int) (hc : BdOk c) (hs : s < 64) (ht : t = 0 ∨ t = 1) :
    (U (bAnd (K.by c s t) (S.of c t 1)) != 0) = true ↔ ∃ a, a < 64 ∧ (D.is c a t 1 && D.hits c a s) = true := by
  have key : ∀ a, a < 64 → bit (bAnd (K.by c s t) (S.of c t 1)) a = (D.is c a t 1 && D.hits c a s) := fun a ha => by
    rw [bit_and, bit_by c a s t hc ha hs (by omega) (by omega), bit_is c t 1 (by omega) hc a ha]
    unfold D.is
    cases h1 : (P.kind (c (1 + a)) == 1)
    · simp
    · have : (P.kind (c (1 + a)) != 0) = true := by simp at h1 ⊢; omega
      rw [this]
      cases (D.color (c (1 + a)) == t) <;> cases D.hits c a s <;> rfl
  rw [U_ne, decide_eq_true_eq]
  constructor
  · intro h
    obtain ⟨a, ha, hb⟩ := some_of h
    exact ⟨a, ha, by rw [← key a ha, hb]⟩
  · rintro ⟨a, ha, hb⟩ e
    have := key a ha
    rw [hb, e, bit_zero] at this
    cases this
def NoHit (c : Nat → Int) (t : Int) (s k : Nat) : Prop := ∀ a, a < k → (D.is c a t 1 && D.hits c a s) = false
theorem NoHit.next {c : Nat → Int} {t : Int} {s k : Nat} (h : NoHit c t s k) (e : (D.is c k t 1 && D.hits c k s) = false) : NoHit c t s (k + 1) := fun j hj => by
  rcases Nat.lt_succ_iff_lt_or_eq.1 hj with h1 | rfl
  · exact h j h1
  · exact e
end Y

set_option maxRecDepth 100000 in
set_option maxHeartbeats 8000000 in
theorem d12passing_0 (c : Nat → Int) (w : World) (hc : PosOk c) (ht : c 78 = 0) (hlo : -1 ≤ c 83) (h64 : c 83 < 64) :
    Calls Tryd.prog 40 #[.agg (posC c)] w fun e w' => e = .returned (.bool (Y.passing c)) ∧ Below w.heap.size w w' := by
  have hp := PosAt.new w c
  have c83 := hp.cellK 83 (by decide) .i8 rfl
  by_cases hf : c 83 = -1
  · rw [hf] at c83
    have E := Lib.hid (show Y.passing c = true by unfold Y.passing; rw [hf]; rfl)
    clear hc hlo h64 hf
    go_enter Tryd.func40, Tryd.ntmps40
    go_wp2
    go_ret
    exact ⟨ret_bool E.out.symm, (Below.refl _ _).alloc (Nat.le_refl _) _⟩
  obtain ⟨s, hs⟩ : ∃ s : Nat, c 83 = (s : Int) := ⟨(c 83).toNat, by omega⟩
  have c78 := hp.cellK 78 (by decide) .u8 rfl
  rw [ht] at c78
  rw [hs] at c83 h64
  have hs64 : s < 64 := by omega
  have dfn : ((s : Int) == -1) = false := beq_eq_false_iff_ne.2 (by omega)
  obtain ⟨q, hq⟩ : ∃ q : Nat, s / 8 = q := ⟨_, rfl⟩
  have hq1 : (s : Int).tdiv 8 = (q : Int) := by rw [Int.tdiv_eq_ediv_of_nonneg (by omega)]; omega
  have hq2 : (s : Int) / 8 = (q : Int) := by omega
  have y0 := hp.in'.bd s hs64
  obtain ⟨x0, hx0⟩ : ∃ x, c (1 + s) = x := ⟨_, rfl⟩
  rw [hx0] at y0
  have HE := Lib.hid (show Y.passing c = Y.passAt c s by
    unfold Y.passing
    rw [decide_eq_false (show ¬ c 83 < 0 by omega), hs, Int.toNat_natCast]
    rfl)
  have hb0 : Below w.heap.size w (w.alloc (.cells (posC c) 31)) := (Below.refl _ _).alloc (Nat.le_refl _) _
  have HW := Lib.hid (And.intro hp hb0)
  have HC := Lib.hid (pos_bd hc)
  have HX0 := Lib.hid hx0
  have HT0 := Lib.hid ht
  have HH : Hid (Y.passAt c s = (decide (s / 8 = 5) && (c (1 + s) == 0 && (c (1 + (s + 8)) == 0 && (c (1 + (s - 8)) == 9 && (U (bAnd (K.by c s 0) (S.of c 0 1)) != 0)))))) := Lib.hid (by
    unfold Y.passAt Y.passHit
    rw [if_neg (by rw [ht]; decide), ht])
  obtain ⟨W, hW⟩ : ∃ W, w.alloc (.cells (posC c) 31) = W := ⟨_, rfl⟩
  rw [hW] at c83 c78 y0 HW
  clear hf hc hx0 hp hb0 ht hlo hs
  by_cases hr : q = 5
  rotate_left
  · have dr : ((q : Int) != 5) = true := by simp; omega
    have E := Lib.hid (show Y.passing c = false by rw [HE.out, HH.out, decide_eq_false (by omega), Bool.false_and])
    clear hr HH HE HX0
    go_enter Tryd.func40, Tryd.ntmps40
    go_wp2
    go_ret
    exact ⟨ret_bool E.out.symm, HW.out.2⟩
  subst hr
  obtain ⟨a, ha⟩ : ∃ a : Nat, s + 8 = a := ⟨_, rfl⟩
  obtain ⟨b, hb⟩ : ∃ b : Nat, s - 8 = b := ⟨_, rfl⟩
  have ya := HW.out.1.in'.bd a (by omega)
  have yb := HW.out.1.in'.bd b (by omega)
  rw [hq, ha, hb] at HH
  have e1 : IntKind.i64.wrap ((s : Int) + 8) = (a : Int) := by rw [IntKind.wrap_i64]; omega
  have e2 : IntKind.i64.wrap ((s : Int) - 8) = (b : Int) := by rw [IntKind.wrap_i64]; omega
  have e3 : (s : Int) + 8 = (a : Int) := by omega
  have e4 : (s : Int) - 8 = (b : Int) := by omega
  have ba : 0 ≤ (a : Int) ∧ (a : Int) < 64 := by omega
  have bb : 0 ≤ (b : Int) ∧ (b : Int) < 64 := by omega
  have bs : 0 ≤ (s : Int) ∧ (s : Int) < 64 := by omega
  obtain ⟨xa, hxa⟩ : ∃ x, c (1 + a) = x := ⟨_, rfl⟩
  obtain ⟨xb, hxb⟩ : ∃ x, c (1 + b) = x := ⟨_, rfl⟩
  rw [hxa] at ya HH
  rw [hxb] at yb HH
  rw [HX0.out] at HH
  have HIs : Hid (∀ w, Calls Tryd.prog 73 #[.agg (posC c), .int .i64 (b : Int), .int .u8 1, .int .u8 1] w fun e w' => e = .returned (.bool (xb == 9)) ∧ Below w.heap.size w w') := Lib.hid (fun w => by
    have := is12 c b 1 1 HC.out (by omega) (by omega) (by omega)
    rw [hxb] at this
    rw [show (xb == 9) = (xb == 8 * 1 + 1) from rfl, ← this]
    exact d8is_any c b 1 1 w HC.out (by omega))
  have hq1' : (s : Int).tdiv 8 = 5 := hq1
  have hq2' : (s : Int) / 8 = 5 := hq2
  clear hq1 hq2 hq HX0 hxa hxb ha hb
  cases f0 : (x0 != 0)
  rotate_left
  · have E := Lib.hid (show Y.passing c = false by rw [HE.out, HH.out, eq_not_ne x0, f0]; simp)
    clear HH HE
    go_enter Tryd.func40, Tryd.ntmps40
    go_wp2
    go_ret
    exact ⟨ret_bool E.out.symm, HW.out.2⟩
  cases f1 : (xa != 0)
  rotate_left
  · have E := Lib.hid (show Y.passing c = false by rw [HE.out, HH.out, eq_not_ne xa, f1]; simp)
    clear HH HE
    go_enter Tryd.func40, Tryd.ntmps40
    go_wp2
    go_ret
    exact ⟨ret_bool E.out.symm, HW.out.2⟩
  cases f2 : (xb == 9)
  · have E := Lib.hid (show Y.passing c = false by rw [HE.out, HH.out, f2]; simp)
    rw [f2] at HIs
    clear HH HE
    go_enter Tryd.func40, Tryd.ntmps40
    go_wp2_with (first | ((with_reducible refine wp_load_box_g rfl _ rfl ?_); refine ⟨_, _, rfl, HW.out.1, ?_⟩) | (go_at_call 73; refine (HIs.out _).mono ?_; rintro e w3 ⟨rfl, hb3⟩; have hp3 := HW.out.1.below hb3; have hbr := below_next HW.out.2 hb3; have c78' := hp3.cellK 78 (by decide) .u8 rfl; rw [HT0.out] at c78'))
    go_ret
    exact ⟨ret_bool E.out.symm, hbr⟩
  have E := Lib.hid (show Y.passing c = (U (bAnd (K.by c s 0) (S.of c 0 1)) != 0) by rw [HE.out, HH.out, eq_not_ne x0, eq_not_ne xa, f0, f1, f2]; simp)
  have HIff := Lib.hid (Y.passHit_iff c s 0 HC.out hs64 (by omega))
  rw [f2] at HIs
  clear HH HE
  go_enter Tryd.func40, Tryd.ntmps40
  go_wp2_with (first | ((with_reducible refine wp_load_box_g rfl _ rfl ?_); refine ⟨_, _, rfl, HW.out.1, ?_⟩) | (go_at_call 73; refine (HIs.out _).mono ?_; rintro e w3 ⟨rfl, hb3⟩; have hp3 := HW.out.1.below hb3; have hbr := below_next HW.out.2 hb3; have c78' := hp3.cellK 78 (by decide) .u8 rfl; rw [HT0.out] at c78'))
  have HP3 := Lib.hid (And.intro hp3 hbr)
  have HS64 := Lib.hid hs64
  clear hp3 hbr hb3 c83 c78 y0 ya yb e1 e2 e3 e4 ba bb bs hq1' hq2' c78'
  go_loopw [6] (fun i wr => ∃ k : Nat, k ≤ 64 ∧ i = .int .i64 (k : Int) ∧ Y.NoHit c 0 s k ∧ PosAt wr w.heap.size c ∧ Below w.heap.size w wr) (fun i _ => 64 - (intOf i).toNat)
  case atStart => exact ⟨0, Nat.zero_le _, rfl, (fun j hj => by omega), HP3.out.1, HP3.out.2⟩
  case round =>
    obtain ⟨k, hk, rfl, hN, hp, hbr⟩ := hrel
    have HN := Lib.hid hN
    have c78 := hp.cellK 78 (by decide) .u8 rfl
    rw [HT0.out] at c78
    have HQ := Lib.hid (And.intro hp hbr)
    clear hN hp hbr
    by_cases hlt : k < 64
    · obtain ⟨i1, hi1⟩ : ∃ b, D.is c k 0 1 = b := ⟨_, rfl⟩
      obtain ⟨i2, hi2⟩ : ∃ b, D.hits c k s = b := ⟨_, rfl⟩
      have HIk : Hid (∀ w, Calls Tryd.prog 73 #[.agg (posC c), .int .i64 (k : Int), .int .u8 0, .int .u8 1] w fun e w' => e = .returned (.bool i1) ∧ Below w.heap.size w w') := Lib.hid (fun w => by rw [← hi1]; exact d8is_any c k 0 1 w HC.out hlt)
      have HHk : Hid (∀ w, Calls Tryd.prog 58 #[.agg (posC c), .int .i64 (k : Int), .int .i64 (s : Int)] w fun e w' => e = .returned (.bool i2) ∧ Below w.heap.size w w') := Lib.hid (fun w => by rw [← hi2]; exact d8hits_any c k s w HC.out hlt HS64.out)
      have HNx := Lib.hid (fun h => Y.NoHit.next HN.out h)
      have HYx := Lib.hid (fun (h : (D.is c k 0 1 && D.hits c k s) = true) => HIff.out.2 ⟨k, hlt, h⟩)
      rw [hi1, hi2] at HNx HYx
      clear hi1 hi2
      cases i1
      · go_wp2_with (first
          | ((with_reducible refine wp_load_box_g rfl _ rfl ?_); refine ⟨_, _, rfl, HQ.out.1, ?_⟩)
          | (go_at_call 73; refine (HIk.out _).mono ?_; rintro e w5 ⟨rfl, hb5⟩; have hp5 := HQ.out.1.below hb5; have hbr5 := below_next HQ.out.2 hb5))
        go_roundw
        case rel => exact ⟨k + 1, by omega, by go_num, HNx.out rfl, hp5, hbr5⟩
        case measure => simp [intOf]; omega
      · cases i2
        · go_wp2_with (first
            | ((with_reducible refine wp_load_box_g rfl _ rfl ?_); refine ⟨_, _, rfl, hp5, ?_⟩)
            | ((with_reducible refine wp_load_box_g rfl _ rfl ?_); refine ⟨_, _, rfl, HQ.out.1, ?_⟩)
            | (go_at_call 73; refine (HIk.out _).mono ?_; rintro e w5 ⟨rfl, hb5⟩; have hp5 := HQ.out.1.below hb5; have hbr5 := below_next HQ.out.2 hb5)
            | (go_at_call 58; refine (HHk.out _).mono ?_; rintro e w6 ⟨rfl, hb6⟩; have hp6 := hp5.below hb6; have hbr6 := below_next hbr5 hb6))
          go_roundw
          case rel => exact ⟨k + 1, by omega, by go_num, HNx.out rfl, hp6, hbr6⟩
          case measure => simp [intOf]; omega
        · go_wp2_with (first
            | ((with_reducible refine wp_load_box_g rfl _ rfl ?_); refine ⟨_, _, rfl, hp5, ?_⟩)
            | ((with_reducible refine wp_load_box_g rfl _ rfl ?_); refine ⟨_, _, rfl, HQ.out.1, ?_⟩)
            | (go_at_call 73; refine (HIk.out _).mono ?_; rintro e w5 ⟨rfl, hb5⟩; have hp5 := HQ.out.1.below hb5; have hbr5 := below_next HQ.out.2 hb5)
            | (go_at_call 58; refine (HHk.out _).mono ?_; rintro e w6 ⟨rfl, hb6⟩; have hp6 := hp5.below hb6; have hbr6 := below_next hbr5 hb6))
          go_ret
          exact ⟨ret_bool (by rw [E.out, HYx.out rfl]), hbr6⟩
    · obtain rfl : k = 64 := by omega
      have E2 := Lib.hid (show Y.passing c = false by
        rw [E.out, Bool.eq_false_iff]
        intro h
        obtain ⟨a, ha, hb⟩ := HIff.out.1 h
        rw [HN.out a ha] at hb
        cases hb)
      go_wp2
      go_ret
      exact ⟨ret_bool E2.out.symm, HQ.out.2⟩

set_option maxRecDepth 100000 in
set_option maxHeartbeats 8000000 in
theorem d12passing_1 (c : Nat → Int) (w : World) (hc : PosOk c) (ht : c 78 = 1) (hlo : -1 ≤ c 83) (h64 : c 83 < 64) :
    Calls Tryd.prog 40 #[.agg (posC c)] w fun e w' => e = .returned (.bool (Y.passing c)) ∧ Below w.heap.size w w' := by
  have hp := PosAt.new w c
  have c83 := hp.cellK 83 (by decide) .i8 rfl
  by_cases hf : c 83 = -1
  · rw [hf] at c83
    have E := Lib.hid (show Y.passing c = true by unfold Y.passing; rw [hf]; rfl)
    clear hc hlo h64 hf
    go_enter Tryd.func40, Tryd.ntmps40
    go_wp2
    go_ret
    exact ⟨ret_bool E.out.symm, (Below.refl _ _).alloc (Nat.le_refl _) _⟩
  obtain ⟨s, hs⟩ : ∃ s : Nat, c 83 = (s : Int) := ⟨(c 83).toNat, by omega⟩
  have c78 := hp.cellK 78 (by decide) .u8 rfl
  rw [ht] at c78
  rw [hs] at c83 h64
  have hs64 : s < 64 := by omega
  have dfn : ((s : Int) == -1) = false := beq_eq_false_iff_ne.2 (by omega)
  obtain ⟨q, hq⟩ : ∃ q : Nat, s / 8 = q := ⟨_, rfl⟩
  have hq1 : (s : Int).tdiv 8 = (q : Int) := by rw [Int.tdiv_eq_ediv_of_nonneg (by omega)]; omega
  have hq2 : (s : Int) / 8 = (q : Int) := by omega
  have y0 := hp.in'.bd s hs64
  obtain ⟨x0, hx0⟩ : ∃ x, c (1 + s) = x := ⟨_, rfl⟩
  rw [hx0] at y0
  have HE := Lib.hid (show Y.passing c = Y.passAt c s by
    unfold Y.passing
    rw [decide_eq_false (show ¬ c 83 < 0 by omega), hs, Int.toNat_natCast]
    rfl)
  have hb0 : Below w.heap.size w (w.alloc (.cells (posC c) 31)) := (Below.refl _ _).alloc (Nat.le_refl _) _
  have HW := Lib.hid (And.intro hp hb0)
  have HC := Lib.hid (pos_bd hc)
  have HX0 := Lib.hid hx0
  have HT0 := Lib.hid ht
  have HH : Hid (Y.passAt c s = (decide (s / 8 = 2) && (c (1 + s) == 0 && (c (1 + (s - 8)) == 0 && (c (1 + (s + 8)) == 1 && (U (bAnd (K.by c s 1) (S.of c 1 1)) != 0)))))) := Lib.hid (by
    unfold Y.passAt Y.passHit
    rw [if_pos ht, ht])
  obtain ⟨W, hW⟩ : ∃ W, w.alloc (.cells (posC c) 31) = W := ⟨_, rfl⟩
  rw [hW] at c83 c78 y0 HW
  clear hf hc hx0 hp hb0 ht hlo hs
  by_cases hr : q = 2
  rotate_left
  · have dr : ((q : Int) != 2) = true := by simp; omega
    have E := Lib.hid (show Y.passing c = false by rw [HE.out, HH.out, decide_eq_false (by omega), Bool.false_and])
    clear hr HH HE HX0
    go_enter Tryd.func40, Tryd.ntmps40
    go_wp2
    go_ret
    exact ⟨ret_bool E.out.symm, HW.out.2⟩
  subst hr
  obtain ⟨a, ha⟩ : ∃ a : Nat, s + 8 = a := ⟨_, rfl⟩
  obtain ⟨b, hb⟩ : ∃ b : Nat, s - 8 = b := ⟨_, rfl⟩
  have ya := HW.out.1.in'.bd a (by omega)
  have yb := HW.out.1.in'.bd b (by omega)
  rw [hq, ha, hb] at HH
  have e1 : IntKind.i64.wrap ((s : Int) + -8) = (b : Int) := by rw [IntKind.wrap_i64]; omega
  have e2 : IntKind.i64.wrap ((s : Int) - -8) = (a : Int) := by rw [IntKind.wrap_i64]; omega
  have e3 : (s : Int) + 8 = (a : Int) := by omega
  have e4 : (s : Int) - 8 = (b : Int) := by omega
  have ba : 0 ≤ (a : Int) ∧ (a : Int) < 64 := by omega
  have bb : 0 ≤ (b : Int) ∧ (b : Int) < 64 := by omega
  have bs : 0 ≤ (s : Int) ∧ (s : Int) < 64 := by omega
  obtain ⟨xa, hxa⟩ : ∃ x, c (1 + a) = x := ⟨_, rfl⟩
  obtain ⟨xb, hxb⟩ : ∃ x, c (1 + b) = x := ⟨_, rfl⟩
  rw [hxa] at ya HH
  rw [hxb] at yb HH
  rw [HX0.out] at HH
  have HIs : Hid (∀ w, Calls Tryd.prog 73 #[.agg (posC c), .int .i64 (a : Int), .int .u8 0, .int .u8 1] w fun e w' => e = .returned (.bool (xa == 1)) ∧ Below w.heap.size w w') := Lib.hid (fun w => by
    have := is12 c a 0 1 HC.out (by omega) (by omega) (by omega)
    rw [hxa] at this
    rw [show (xa == 1) = (xa == 8 * 0 + 1) from rfl, ← this]
    exact d8is_any c a 0 1 w HC.out (by omega))
  have hq1' : (s : Int).tdiv 8 = 2 := hq1
  have hq2' : (s : Int) / 8 = 2 := hq2
  clear hq1 hq2 hq HX0 hxa hxb ha hb
  cases f0 : (x0 != 0)
  rotate_left
  · have E := Lib.hid (show Y.passing c = false by rw [HE.out, HH.out, eq_not_ne x0, f0]; simp)
    clear HH HE
    go_enter Tryd.func40, Tryd.ntmps40
    go_wp2
    go_ret
    exact ⟨ret_bool E.out.symm, HW.out.2⟩
  cases f1 : (xb != 0)
  rotate_left
  · have E := Lib.hid (show Y.passing c = false by rw [HE.out, HH.out, eq_not_ne xb, f1]; simp)
    clear HH HE
    go_enter Tryd.func40, Tryd.ntmps40
    go_wp2
    go_ret
    exact ⟨ret_bool E.out.symm, HW.out.2⟩
  cases f2 : (xa == 1)
  · have E := Lib.hid (show Y.passing c = false by rw [HE.out, HH.out, f2]; simp)
    rw [f2] at HIs
    clear HH HE
    go_enter Tryd.func40, Tryd.ntmps40
    go_wp2_with (first | ((with_reducible refine wp_load_box_g rfl _ rfl ?_); refine ⟨_, _, rfl, HW.out.1, ?_⟩) | (go_at_call 73; refine (HIs.out _).mono ?_; rintro e w3 ⟨rfl, hb3⟩; have hp3 := HW.out.1.below hb3; have hbr := below_next HW.out.2 hb3; have c78' := hp3.cellK 78 (by decide) .u8 rfl; rw [HT0.out] at c78'))
    go_ret
    exact ⟨ret_bool E.out.symm, hbr⟩
  have E := Lib.hid (show Y.passing c = (U (bAnd (K.by c s 1) (S.of c 1 1)) != 0) by rw [HE.out, HH.out, eq_not_ne x0, eq_not_ne xb, f0, f1, f2]; simp)
  have HIff := Lib.hid (Y.passHit_iff c s 1 HC.out hs64 (by omega))
  rw [f2] at HIs
  clear HH HE
  go_enter Tryd.func40, Tryd.ntmps40
  go_wp2_with (first | ((with_reducible refine wp_load_box_g rfl _ rfl ?_); refine ⟨_, _, rfl, HW.out.1, ?_⟩) | (go_at_call 73; refine (HIs.out _).mono ?_; rintro e w3 ⟨rfl, hb3⟩; have hp3 := HW.out.1.below hb3; have hbr := below_next HW.out.2 hb3; have c78' := hp3.cellK 78 (by decide) .u8 rfl; rw [HT0.out] at c78'))
  have HP3 := Lib.hid (And.intro hp3 hbr)
  have HS64 := Lib.hid hs64
  clear hp3 hbr hb3 c83 c78 y0 ya yb e1 e2 e3 e4 ba bb bs hq1' hq2' c78'
  go_loopw [6] (fun i wr => ∃ k : Nat, k ≤ 64 ∧ i = .int .i64 (k : Int) ∧ Y.NoHit c 1 s k ∧ PosAt wr w.heap.size c ∧ Below w.heap.size w wr) (fun i _ => 64 - (intOf i).toNat)
  case atStart => exact ⟨0, Nat.zero_le _, rfl, (fun j hj => by omega), HP3.out.1, HP3.out.2⟩
  case round =>
    obtain ⟨k, hk, rfl, hN, hp, hbr⟩ := hrel
    have HN := Lib.hid hN
    have c78 := hp.cellK 78 (by decide) .u8 rfl
    rw [HT0.out] at c78
    have HQ := Lib.hid (And.intro hp hbr)
    clear hN hp hbr
    by_cases hlt : k < 64
    · obtain ⟨i1, hi1⟩ : ∃ b, D.is c k 1 1 = b := ⟨_, rfl⟩
      obtain ⟨i2, hi2⟩ : ∃ b, D.hits c k s = b := ⟨_, rfl⟩
      have HIk : Hid (∀ w, Calls Tryd.prog 73 #[.agg (posC c), .int .i64 (k : Int), .int .u8 1, .int .u8 1] w fun e w' => e = .returned (.bool i1) ∧ Below w.heap.size w w') := Lib.hid (fun w => by rw [← hi1]; exact d8is_any c k 1 1 w HC.out hlt)
      have HHk : Hid (∀ w, Calls Tryd.prog 58 #[.agg (posC c), .int .i64 (k : Int), .int .i64 (s : Int)] w fun e w' => e = .returned (.bool i2) ∧ Below w.heap.size w w') := Lib.hid (fun w => by rw [← hi2]; exact d8hits_any c k s w HC.out hlt HS64.out)
      have HNx := Lib.hid (fun h => Y.NoHit.next HN.out h)
      have HYx := Lib.hid (fun (h : (D.is c k 1 1 && D.hits c k s) = true) => HIff.out.2 ⟨k, hlt, h⟩)
      rw [hi1, hi2] at HNx HYx
      clear hi1 hi2
      cases i1
      · go_wp2_with (first
          | ((with_reducible refine wp_load_box_g rfl _ rfl ?_); refine ⟨_, _, rfl, HQ.out.1, ?_⟩)
          | (go_at_call 73; refine (HIk.out _).mono ?_; rintro e w5 ⟨rfl, hb5⟩; have hp5 := HQ.out.1.below hb5; have hbr5 := below_next HQ.out.2 hb5))
        go_roundw
        case rel => exact ⟨k + 1, by omega, by go_num, HNx.out rfl, hp5, hbr5⟩
        case measure => simp [intOf]; omega
      · cases i2
        · go_wp2_with (first
            | ((with_reducible refine wp_load_box_g rfl _ rfl ?_); refine ⟨_, _, rfl, hp5, ?_⟩)
            | ((with_reducible refine wp_load_box_g rfl _ rfl ?_); refine ⟨_, _, rfl, HQ.out.1, ?_⟩)
            | (go_at_call 73; refine (HIk.out _).mono ?_; rintro e w5 ⟨rfl, hb5⟩; have hp5 := HQ.out.1.below hb5; have hbr5 := below_next HQ.out.2 hb5)
            | (go_at_call 58; refine (HHk.out _).mono ?_; rintro e w6 ⟨rfl, hb6⟩; have hp6 := hp5.below hb6; have hbr6 := below_next hbr5 hb6))
          go_roundw
          case rel => exact ⟨k + 1, by omega, by go_num, HNx.out rfl, hp6, hbr6⟩
          case measure => simp [intOf]; omega
        · go_wp2_with (first
            | ((with_reducible refine wp_load_box_g rfl _ rfl ?_); refine ⟨_, _, rfl, hp5, ?_⟩)
            | ((with_reducible refine wp_load_box_g rfl _ rfl ?_); refine ⟨_, _, rfl, HQ.out.1, ?_⟩)
            | (go_at_call 73; refine (HIk.out _).mono ?_; rintro e w5 ⟨rfl, hb5⟩; have hp5 := HQ.out.1.below hb5; have hbr5 := below_next HQ.out.2 hb5)
            | (go_at_call 58; refine (HHk.out _).mono ?_; rintro e w6 ⟨rfl, hb6⟩; have hp6 := hp5.below hb6; have hbr6 := below_next hbr5 hb6))
          go_ret
          exact ⟨ret_bool (by rw [E.out, HYx.out rfl]), hbr6⟩
    · obtain rfl : k = 64 := by omega
      have E2 := Lib.hid (show Y.passing c = false by
        rw [E.out, Bool.eq_false_iff]
        intro h
        obtain ⟨a, ha, hb⟩ := HIff.out.1 h
        rw [HN.out a ha] at hb
        cases hb)
      go_wp2
      go_ret
      exact ⟨ret_bool E2.out.symm, HQ.out.2⟩

set_option maxRecDepth 100000 in
set_option maxHeartbeats 8000000 in
theorem d12check_0 (c : Nat → Int) (w : World) (hc : PosOk c) (ht : c 78 = 0) :
    Calls Tryd.prog 41 #[.agg (posC c)] w fun e w' => e = .returned (.bool (Y.check c)) ∧ Below w.heap.size w w' := by
  have hp := PosAt.new w c
  have hb0 : Below w.heap.size w (w.alloc (.cells (posC c) 31)) := (Below.refl _ _).alloc (Nat.le_refl _) _
  obtain ⟨k1, hk1⟩ : ∃ k, K.check c 0 = k := ⟨_, rfl⟩
  obtain ⟨k2, hk2⟩ : ∃ k, K.check c 1 = k := ⟨_, rfl⟩
  obtain ⟨n, hn⟩ : ∃ n, Y.cnt c 0 = n := ⟨_, rfl⟩
  have H1 : Hid (∀ w, Calls Tryd.prog 74 #[.agg (posC c), .int .u8 0] w fun e w' => e = .returned (.bool k1) ∧ Below w.heap.size w w') := Lib.hid (fun w => by rw [← hk1, check_eq c 0 (pos_bd hc) (by omega)]; exact d8check_any c 0 w (pos_bd hc))
  have H2 : Hid (∀ w, Calls Tryd.prog 74 #[.agg (posC c), .int .u8 1] w fun e w' => e = .returned (.bool k2) ∧ Below w.heap.size w w') := Lib.hid (fun w => by rw [← hk2, check_eq c 1 (pos_bd hc) (by omega)]; exact d8check_any c 1 w (pos_bd hc))
  have HN : Hid (∀ w, Calls Tryd.prog 69 #[.agg (posC c), .int .u8 0, .int .u8 6] w fun e w' => e = .returned (.int .i64 (n : Int)) ∧ Below w.heap.size w w') := Lib.hid (fun w => by rw [← hn]; exact d12count_any c 0 w hc (by decide))
  have HE := Lib.hid (show Y.check c = (!(c 0 == 8 && k1) && ((c 0 == 3 && n == 0) || !k2)) by
    unfold Y.check Y.over
    rw [ht, hk1, hn, show (1 : Int) - 0 = 1 from rfl, hk2])
  have c0 := hp.cellK 0 (by decide) .u8 rfl
  have c78 := hp.cellK 78 (by decide) .u8 rfl
  rw [ht] at c78
  have HT0 := Lib.hid ht
  obtain ⟨W, hW⟩ : ∃ W, w.alloc (.cells (posC c) 31) = W := ⟨_, rfl⟩
  rw [hW] at c0 c78 hp hb0
  have HW := Lib.hid (And.intro hp hb0)
  clear hk1 hk2 hn hc ht hp hb0
  by_cases h8 : c 0 = 8
  · have e8 : (c 0 == 8) = true := by rw [h8]; rfl
    have e3 : (c 0 == 3) = false := by rw [h8]; rfl
    rw [e8, e3] at HE
    clear h8
    cases k1 <;> cases k2
    all_goals
      go_enter Tryd.func41, Tryd.ntmps41
      go_wp2_with (first
        | (go_at_call 74; (with_reducible refine (H2.out _).mono ?_); rintro e w3 ⟨rfl, hb3⟩; have hbr3 := below_next hbr2 hb3)
        | (go_at_call 74; (with_reducible refine (H1.out _).mono ?_); rintro e w2 ⟨rfl, hb2⟩; have hp2 := HW.out.1.below hb2; have hbr2 := below_next HW.out.2 hb2)
        | ((with_reducible refine wp_load_box_g rfl _ rfl ?_); refine ⟨_, _, rfl, hp2, ?_⟩) | ((with_reducible refine wp_load_box_g rfl _ rfl ?_); refine ⟨_, _, rfl, HW.out.1, ?_⟩))
      go_ret
      exact ⟨ret_bool (HE.out.trans (by rfl)).symm, by first | exact hbr3 | exact hbr2⟩
  · have e8 : (c 0 == 8) = false := by simpa using h8
    rw [e8] at HE
    clear h8
    cases e3 : (c 0 == 3)
    · rw [e3] at HE
      cases k2
      all_goals
        go_enter Tryd.func41, Tryd.ntmps41
        go_wp2_with (first
          | (go_at_call 74; refine (H2.out _).mono ?_; rintro e w2 ⟨rfl, hb2⟩; have hbr2 := below_next HW.out.2 hb2)
          | ((with_reducible refine wp_load_box_g rfl _ rfl ?_); refine ⟨_, _, rfl, HW.out.1, ?_⟩))
        go_ret
        exact ⟨ret_bool (HE.out.trans (by rfl)).symm, hbr2⟩
    · rw [e3] at HE
      by_cases hn : n = 0
      · subst hn
        go_enter Tryd.func41, Tryd.ntmps41
        go_wp2_with (first
          | (go_at_call 69; refine (HN.out _).mono ?_; rintro e w2 ⟨rfl, hb2⟩; have hbr2 := below_next HW.out.2 hb2)
          | ((with_reducible refine wp_load_box_g rfl _ rfl ?_); refine ⟨_, _, rfl, HW.out.1, ?_⟩))
        go_ret
        exact ⟨ret_bool (HE.out.trans (by rfl)).symm, hbr2⟩
      · have en : (n == 0) = false := by simpa using hn
        have en' : ((n : Int) == 0) = false := by simpa using hn
        rw [en] at HE
        clear hn en
        cases k2
        all_goals
          go_enter Tryd.func41, Tryd.ntmps41
          go_wp2_with (first
            | (go_at_call 69; refine (HN.out _).mono ?_; rintro e w2 ⟨rfl, hb2⟩; have hp2 := HW.out.1.below hb2; have hbr2 := below_next HW.out.2 hb2; have c0' := hp2.cellK 0 (by decide) .u8 rfl; have c78' := hp2.cellK 78 (by decide) .u8 rfl; rw [HT0.out] at c78')
            | (go_at_call 74; refine (H2.out _).mono ?_; rintro e w3 ⟨rfl, hb3⟩; have hbr3 := below_next hbr2 hb3)
            | ((with_reducible refine wp_load_box_g rfl _ rfl ?_); refine ⟨_, _, rfl, hp2, ?_⟩) | ((with_reducible refine wp_load_box_g rfl _ rfl ?_); refine ⟨_, _, rfl, HW.out.1, ?_⟩))
          go_ret
          exact ⟨ret_bool (HE.out.trans (by rfl)).symm, hbr3⟩

set_option maxRecDepth 100000 in
set_option maxHeartbeats 8000000 in
theorem d12check_1 (c : Nat → Int) (w : World) (hc : PosOk c) (ht : c 78 = 1) :
    Calls Tryd.prog 41 #[.agg (posC c)] w fun e w' => e = .returned (.bool (Y.check c)) ∧ Below w.heap.size w w' := by
  have hp := PosAt.new w c
  have hb0 : Below w.heap.size w (w.alloc (.cells (posC c) 31)) := (Below.refl _ _).alloc (Nat.le_refl _) _
  obtain ⟨k1, hk1⟩ : ∃ k, K.check c 1 = k := ⟨_, rfl⟩
  obtain ⟨k2, hk2⟩ : ∃ k, K.check c 0 = k := ⟨_, rfl⟩
  obtain ⟨n, hn⟩ : ∃ n, Y.cnt c 1 = n := ⟨_, rfl⟩
  have H1 : Hid (∀ w, Calls Tryd.prog 74 #[.agg (posC c), .int .u8 1] w fun e w' => e = .returned (.bool k1) ∧ Below w.heap.size w w') := Lib.hid (fun w => by rw [← hk1, check_eq c 1 (pos_bd hc) (by omega)]; exact d8check_any c 1 w (pos_bd hc))
  have H2 : Hid (∀ w, Calls Tryd.prog 74 #[.agg (posC c), .int .u8 0] w fun e w' => e = .returned (.bool k2) ∧ Below w.heap.size w w') := Lib.hid (fun w => by rw [← hk2, check_eq c 0 (pos_bd hc) (by omega)]; exact d8check_any c 0 w (pos_bd hc))
  have HN : Hid (∀ w, Calls Tryd.prog 69 #[.agg (posC c), .int .u8 1, .int .u8 6] w fun e w' => e = .returned (.int .i64 (n : Int)) ∧ Below w.heap.size w w') := Lib.hid (fun w => by rw [← hn]; exact d12count_any c 1 w hc (by decide))
  have HE := Lib.hid (show Y.check c = (!(c 0 == 8 && k1) && ((c 0 == 3 && n == 0) || !k2)) by
    unfold Y.check Y.over
    rw [ht, hk1, hn, show (1 : Int) - 1 = 0 from rfl, hk2])
  have c0 := hp.cellK 0 (by decide) .u8 rfl
  have c78 := hp.cellK 78 (by decide) .u8 rfl
  rw [ht] at c78
  have HT0 := Lib.hid ht
  obtain ⟨W, hW⟩ : ∃ W, w.alloc (.cells (posC c) 31) = W := ⟨_, rfl⟩
  rw [hW] at c0 c78 hp hb0
  have HW := Lib.hid (And.intro hp hb0)
  clear hk1 hk2 hn hc ht hp hb0
  by_cases h8 : c 0 = 8
  · have e8 : (c 0 == 8) = true := by rw [h8]; rfl
    have e3 : (c 0 == 3) = false := by rw [h8]; rfl
    rw [e8, e3] at HE
    clear h8
    cases k1 <;> cases k2
    all_goals
      go_enter Tryd.func41, Tryd.ntmps41
      go_wp2_with (first
        | (go_at_call 74; (with_reducible refine (H1.out _).mono ?_); rintro e w3 ⟨rfl, hb3⟩; have hbr3 := below_next hbr2 hb3)
        | (go_at_call 74; (with_reducible refine (H2.out _).mono ?_); rintro e w2 ⟨rfl, hb2⟩; have hp2 := HW.out.1.below hb2; have hbr2 := below_next HW.out.2 hb2)
        | ((with_reducible refine wp_load_box_g rfl _ rfl ?_); refine ⟨_, _, rfl, hp2, ?_⟩) | ((with_reducible refine wp_load_box_g rfl _ rfl ?_); refine ⟨_, _, rfl, HW.out.1, ?_⟩))
      go_ret
      exact ⟨ret_bool (HE.out.trans (by rfl)).symm, by first | exact hbr3 | exact hbr2⟩
  · have e8 : (c 0 == 8) = false := by simpa using h8
    rw [e8] at HE
    clear h8
    cases e3 : (c 0 == 3)
    · rw [e3] at HE
      cases k2
      all_goals
        go_enter Tryd.func41, Tryd.ntmps41
        go_wp2_with (first
          | (go_at_call 74; refine (H2.out _).mono ?_; rintro e w2 ⟨rfl, hb2⟩; have hbr2 := below_next HW.out.2 hb2)
          | ((with_reducible refine wp_load_box_g rfl _ rfl ?_); refine ⟨_, _, rfl, HW.out.1, ?_⟩))
        go_ret
        exact ⟨ret_bool (HE.out.trans (by rfl)).symm, hbr2⟩
    · rw [e3] at HE
      by_cases hn : n = 0
      · subst hn
        go_enter Tryd.func41, Tryd.ntmps41
        go_wp2_with (first
          | (go_at_call 69; refine (HN.out _).mono ?_; rintro e w2 ⟨rfl, hb2⟩; have hbr2 := below_next HW.out.2 hb2)
          | ((with_reducible refine wp_load_box_g rfl _ rfl ?_); refine ⟨_, _, rfl, HW.out.1, ?_⟩))
        go_ret
        exact ⟨ret_bool (HE.out.trans (by rfl)).symm, hbr2⟩
      · have en : (n == 0) = false := by simpa using hn
        have en' : ((n : Int) == 0) = false := by simpa using hn
        rw [en] at HE
        clear hn en
        cases k2
        all_goals
          go_enter Tryd.func41, Tryd.ntmps41
          go_wp2_with (first
            | (go_at_call 69; refine (HN.out _).mono ?_; rintro e w2 ⟨rfl, hb2⟩; have hp2 := HW.out.1.below hb2; have hbr2 := below_next HW.out.2 hb2; have c0' := hp2.cellK 0 (by decide) .u8 rfl; have c78' := hp2.cellK 78 (by decide) .u8 rfl; rw [HT0.out] at c78')
            | (go_at_call 74; refine (H2.out _).mono ?_; rintro e w3 ⟨rfl, hb3⟩; have hbr3 := below_next hbr2 hb3)
            | ((with_reducible refine wp_load_box_g rfl _ rfl ?_); refine ⟨_, _, rfl, hp2, ?_⟩) | ((with_reducible refine wp_load_box_g rfl _ rfl ?_); refine ⟨_, _, rfl, HW.out.1, ?_⟩))
          go_ret
          exact ⟨ret_bool (HE.out.trans (by rfl)).symm, hbr3⟩

theorem d12passing_any (c : Nat → Int) (w : World) (hc : PosOk c) (ht : c 78 = 0 ∨ c 78 = 1) (hlo : -1 ≤ c 83) (h64 : c 83 < 64) :
    Calls Tryd.prog 40 #[.agg (posC c)] w fun e w' => e = .returned (.bool (Y.passing c)) ∧ Below w.heap.size w w' := by
  rcases ht with h | h
  · exact d12passing_0 c w hc h hlo h64
  · exact d12passing_1 c w hc h hlo h64
theorem d12check_any (c : Nat → Int) (w : World) (hc : PosOk c) (ht : c 78 = 0 ∨ c 78 = 1) :
    Calls Tryd.prog 41 #[.agg (posC c)] w fun e w' => e = .returned (.bool (Y.check c)) ∧ Below w.heap.size w w' := by
  rcases ht with h | h
  · exact d12check_0 c w hc h
  · exact d12check_1 c w hc h
end Go.Proofs.YtlphjjekamhnlaaDoor
