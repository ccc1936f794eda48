/- The document's answer of layer 12 (valid): pockets (with Held, Men of layer 15). -/
import Derived.Test.YtlphjjekamhnlaaDoorDvA
namespace Go.Proofs.YtlphjjekamhnlaaDoor
open Go.RowKit Go.Sort
attribute [local go_sem] Oper.semAt_some

namespace Y
/-- What is held, of the first n kinds. -/
def heldK (c : Nat → Int) (t : Nat) : Nat → Int
  | 0 => 0
  | n + 1 => heldK c t n + c (67 + 6 * t + n)
theorem heldK_bd {c : Nat → Int} (hc : PosOk c) (t : Nat) (ht : t < 2) : ∀ n, n ≤ 5 → 0 ≤ heldK c t n ∧ heldK c t n ≤ 255 * n
  | 0, _ => ⟨Int.le_refl _, Int.le_refl _⟩
  | n + 1, hn => by
    have := heldK_bd hc t ht n (by omega)
    obtain ⟨a, b⟩ := pos_pk hc (1 + 6 * t + n) (by omega)
    rw [show 66 + (1 + 6 * t + n) = 67 + 6 * t + n by omega] at a b
    rw [heldK]
    omega
theorem held_all (c : Nat → Int) (h6 : c 66 = 0) (h7 : c 72 = 0) : heldTo c 12 = heldK c 0 5 + heldK c 1 5 := by
  simp only [heldTo, heldK]
  simp
  omega
theorem kind_bd (x : Int) (h0 : 0 ≤ x) (h1 : x ≤ 255) : 0 ≤ P.kind x ∧ P.kind x ≤ 6 := all8 (fun x => 0 ≤ P.kind x ∧ P.kind x ≤ 6) (by decide +kernel) x h0 h1
end Y

set_option maxRecDepth 100000 in
set_option maxHeartbeats 2000000 in
theorem d15held_0 (c : Nat → Int) (w : World) (hc : PosOk c) :
    Calls Tryd.prog 105 #[.agg (posC c), .int .u8 0] w fun e w' => e = .returned (.int .i64 (Y.heldK c 0 5)) ∧ Below w.heap.size w w' := by
  have hp := PosAt.new w c
  have c0 := hp.cellK 67 (by decide) .u8 rfl
  obtain ⟨a0, b0⟩ := pos_pk hc 1 (by omega)
  change 0 ≤ c 67 at a0
  change c 67 ≤ 255 at b0
  have c1 := hp.cellK 68 (by decide) .u8 rfl
  obtain ⟨a1, b1⟩ := pos_pk hc 2 (by omega)
  change 0 ≤ c 68 at a1
  change c 68 ≤ 255 at b1
  have c2 := hp.cellK 69 (by decide) .u8 rfl
  obtain ⟨a2, b2⟩ := pos_pk hc 3 (by omega)
  change 0 ≤ c 69 at a2
  change c 69 ≤ 255 at b2
  have c3 := hp.cellK 70 (by decide) .u8 rfl
  obtain ⟨a3, b3⟩ := pos_pk hc 4 (by omega)
  change 0 ≤ c 70 at a3
  change c 70 ≤ 255 at b3
  have c4 := hp.cellK 71 (by decide) .u8 rfl
  obtain ⟨a4, b4⟩ := pos_pk hc 5 (by omega)
  change 0 ≤ c 71 at a4
  change c 71 ≤ 255 at b4
  obtain ⟨l0, m0⟩ := Y.heldK_bd hc 0 (by omega) 0 (by omega)
  obtain ⟨l1, m1⟩ := Y.heldK_bd hc 0 (by omega) 1 (by omega)
  obtain ⟨l2, m2⟩ := Y.heldK_bd hc 0 (by omega) 2 (by omega)
  obtain ⟨l3, m3⟩ := Y.heldK_bd hc 0 (by omega) 3 (by omega)
  obtain ⟨l4, m4⟩ := Y.heldK_bd hc 0 (by omega) 4 (by omega)
  obtain ⟨l5, m5⟩ := Y.heldK_bd hc 0 (by omega) 5 (by omega)
  have E0 := Lib.hid (show Y.heldK c 0 1 = Y.heldK c 0 0 + c 67 from rfl)
  have E1 := Lib.hid (show Y.heldK c 0 2 = Y.heldK c 0 1 + c 68 from rfl)
  have E2 := Lib.hid (show Y.heldK c 0 3 = Y.heldK c 0 2 + c 69 from rfl)
  have E3 := Lib.hid (show Y.heldK c 0 4 = Y.heldK c 0 3 + c 70 from rfl)
  have E4 := Lib.hid (show Y.heldK c 0 5 = Y.heldK c 0 4 + c 71 from rfl)
  have HZ := Lib.hid (show Y.heldK c 0 0 = 0 from rfl)
  clear hc
  go_enter Tryd.func105, Tryd.ntmps105
  go_wp2
  go_loop [5, 6] (fun p i => ∃ k : Nat, 1 ≤ k ∧ k ≤ 6 ∧ i = .int .i64 (k : Int) ∧ p = .int .i64 (Y.heldK c 0 (k - 1))) (fun _ i => 6 - (intOf i).toNat)
  case atStart => exact ⟨1, by omega, by omega, rfl, by rw [HZ.out]⟩
  case round =>
    obtain ⟨k, hk, hk6, rfl, rfl⟩ := hrel
    rcases (show k = 1 ∨ k = 2 ∨ k = 3 ∨ k = 4 ∨ k = 5 ∨ k = 6 by omega) with rfl | rfl | rfl | rfl | rfl | rfl
    · rw [show 1 - 1 = 0 from rfl]
      obtain ⟨h, hh⟩ : ∃ h, Y.heldK c 0 0 = h := ⟨_, rfl⟩
      rw [hh] at l0 m0 E0 ⊢
      clear hh
      go_wp2
      go_round
      case rel => exact ⟨2, by omega, by omega, rfl, by rw [show 2 - 1 = 1 from rfl, E0.out]⟩
      case measure => simp [intOf]
    · rw [show 2 - 1 = 1 from rfl]
      obtain ⟨h, hh⟩ : ∃ h, Y.heldK c 0 1 = h := ⟨_, rfl⟩
      rw [hh] at l1 m1 E1 ⊢
      clear hh
      go_wp2
      go_round
      case rel => exact ⟨3, by omega, by omega, rfl, by rw [show 3 - 1 = 2 from rfl, E1.out]⟩
      case measure => simp [intOf]
    · rw [show 3 - 1 = 2 from rfl]
      obtain ⟨h, hh⟩ : ∃ h, Y.heldK c 0 2 = h := ⟨_, rfl⟩
      rw [hh] at l2 m2 E2 ⊢
      clear hh
      go_wp2
      go_round
      case rel => exact ⟨4, by omega, by omega, rfl, by rw [show 4 - 1 = 3 from rfl, E2.out]⟩
      case measure => simp [intOf]
    · rw [show 4 - 1 = 3 from rfl]
      obtain ⟨h, hh⟩ : ∃ h, Y.heldK c 0 3 = h := ⟨_, rfl⟩
      rw [hh] at l3 m3 E3 ⊢
      clear hh
      go_wp2
      go_round
      case rel => exact ⟨5, by omega, by omega, rfl, by rw [show 5 - 1 = 4 from rfl, E3.out]⟩
      case measure => simp [intOf]
    · rw [show 5 - 1 = 4 from rfl]
      obtain ⟨h, hh⟩ : ∃ h, Y.heldK c 0 4 = h := ⟨_, rfl⟩
      rw [hh] at l4 m4 E4 ⊢
      clear hh
      go_wp2
      go_round
      case rel => exact ⟨6, by omega, by omega, rfl, by rw [show 6 - 1 = 5 from rfl, E4.out]⟩
      case measure => simp [intOf]
    · go_wp2
      go_ret
      exact ⟨rfl, (Below.refl _ _).alloc (Nat.le_refl _) _⟩

set_option maxRecDepth 100000 in
set_option maxHeartbeats 2000000 in
theorem d15held_1 (c : Nat → Int) (w : World) (hc : PosOk c) :
    Calls Tryd.prog 105 #[.agg (posC c), .int .u8 1] w fun e w' => e = .returned (.int .i64 (Y.heldK c 1 5)) ∧ Below w.heap.size w w' := by
  have hp := PosAt.new w c
  have c0 := hp.cellK 73 (by decide) .u8 rfl
  obtain ⟨a0, b0⟩ := pos_pk hc 7 (by omega)
  change 0 ≤ c 73 at a0
  change c 73 ≤ 255 at b0
  have c1 := hp.cellK 74 (by decide) .u8 rfl
  obtain ⟨a1, b1⟩ := pos_pk hc 8 (by omega)
  change 0 ≤ c 74 at a1
  change c 74 ≤ 255 at b1
  have c2 := hp.cellK 75 (by decide) .u8 rfl
  obtain ⟨a2, b2⟩ := pos_pk hc 9 (by omega)
  change 0 ≤ c 75 at a2
  change c 75 ≤ 255 at b2
  have c3 := hp.cellK 76 (by decide) .u8 rfl
  obtain ⟨a3, b3⟩ := pos_pk hc 10 (by omega)
  change 0 ≤ c 76 at a3
  change c 76 ≤ 255 at b3
  have c4 := hp.cellK 77 (by decide) .u8 rfl
  obtain ⟨a4, b4⟩ := pos_pk hc 11 (by omega)
  change 0 ≤ c 77 at a4
  change c 77 ≤ 255 at b4
  obtain ⟨l0, m0⟩ := Y.heldK_bd hc 1 (by omega) 0 (by omega)
  obtain ⟨l1, m1⟩ := Y.heldK_bd hc 1 (by omega) 1 (by omega)
  obtain ⟨l2, m2⟩ := Y.heldK_bd hc 1 (by omega) 2 (by omega)
  obtain ⟨l3, m3⟩ := Y.heldK_bd hc 1 (by omega) 3 (by omega)
  obtain ⟨l4, m4⟩ := Y.heldK_bd hc 1 (by omega) 4 (by omega)
  obtain ⟨l5, m5⟩ := Y.heldK_bd hc 1 (by omega) 5 (by omega)
  have E0 := Lib.hid (show Y.heldK c 1 1 = Y.heldK c 1 0 + c 73 from rfl)
  have E1 := Lib.hid (show Y.heldK c 1 2 = Y.heldK c 1 1 + c 74 from rfl)
  have E2 := Lib.hid (show Y.heldK c 1 3 = Y.heldK c 1 2 + c 75 from rfl)
  have E3 := Lib.hid (show Y.heldK c 1 4 = Y.heldK c 1 3 + c 76 from rfl)
  have E4 := Lib.hid (show Y.heldK c 1 5 = Y.heldK c 1 4 + c 77 from rfl)
  have HZ := Lib.hid (show Y.heldK c 1 0 = 0 from rfl)
  clear hc
  go_enter Tryd.func105, Tryd.ntmps105
  go_wp2
  go_loop [5, 6] (fun p i => ∃ k : Nat, 1 ≤ k ∧ k ≤ 6 ∧ i = .int .i64 (k : Int) ∧ p = .int .i64 (Y.heldK c 1 (k - 1))) (fun _ i => 6 - (intOf i).toNat)
  case atStart => exact ⟨1, by omega, by omega, rfl, by rw [HZ.out]⟩
  case round =>
    obtain ⟨k, hk, hk6, rfl, rfl⟩ := hrel
    rcases (show k = 1 ∨ k = 2 ∨ k = 3 ∨ k = 4 ∨ k = 5 ∨ k = 6 by omega) with rfl | rfl | rfl | rfl | rfl | rfl
    · rw [show 1 - 1 = 0 from rfl]
      obtain ⟨h, hh⟩ : ∃ h, Y.heldK c 1 0 = h := ⟨_, rfl⟩
      rw [hh] at l0 m0 E0 ⊢
      clear hh
      go_wp2
      go_round
      case rel => exact ⟨2, by omega, by omega, rfl, by rw [show 2 - 1 = 1 from rfl, E0.out]⟩
      case measure => simp [intOf]
    · rw [show 2 - 1 = 1 from rfl]
      obtain ⟨h, hh⟩ : ∃ h, Y.heldK c 1 1 = h := ⟨_, rfl⟩
      rw [hh] at l1 m1 E1 ⊢
      clear hh
      go_wp2
      go_round
      case rel => exact ⟨3, by omega, by omega, rfl, by rw [show 3 - 1 = 2 from rfl, E1.out]⟩
      case measure => simp [intOf]
    · rw [show 3 - 1 = 2 from rfl]
      obtain ⟨h, hh⟩ : ∃ h, Y.heldK c 1 2 = h := ⟨_, rfl⟩
      rw [hh] at l2 m2 E2 ⊢
      clear hh
      go_wp2
      go_round
      case rel => exact ⟨4, by omega, by omega, rfl, by rw [show 4 - 1 = 3 from rfl, E2.out]⟩
      case measure => simp [intOf]
    · rw [show 4 - 1 = 3 from rfl]
      obtain ⟨h, hh⟩ : ∃ h, Y.heldK c 1 3 = h := ⟨_, rfl⟩
      rw [hh] at l3 m3 E3 ⊢
      clear hh
      go_wp2
      go_round
      case rel => exact ⟨5, by omega, by omega, rfl, by rw [show 5 - 1 = 4 from rfl, E3.out]⟩
      case measure => simp [intOf]
    · rw [show 5 - 1 = 4 from rfl]
      obtain ⟨h, hh⟩ : ∃ h, Y.heldK c 1 4 = h := ⟨_, rfl⟩
      rw [hh] at l4 m4 E4 ⊢
      clear hh
      go_wp2
      go_round
      case rel => exact ⟨6, by omega, by omega, rfl, by rw [show 6 - 1 = 5 from rfl, E4.out]⟩
      case measure => simp [intOf]
    · go_wp2
      go_ret
      exact ⟨rfl, (Below.refl _ _).alloc (Nat.le_refl _) _⟩

set_option maxRecDepth 100000 in
set_option maxHeartbeats 2000000 in
theorem d15men_any (c : Nat → Int) (w : World) (hc : PosOk c) (hl : lawB c = true) :
    Calls Tryd.prog 70 #[.agg (posC c)] w fun e w' => e = .returned (.int .i64 (Y.heldK c 0 5 + Y.heldK c 1 5 + (Y.menTo c 64 : Int))) ∧ Below w.heap.size w w' := by
  have hp := PosAt.new w c
  have hb0 : Below w.heap.size w (w.alloc (.cells (posC c) 31)) := (Below.refl _ _).alloc (Nat.le_refl _) _
  obtain ⟨l0, m0⟩ := Y.heldK_bd hc 0 (by omega) 5 (by omega)
  obtain ⟨l1, m1⟩ := Y.heldK_bd hc 1 (by omega) 5 (by omega)
  have H0 : Hid (∀ w, Calls Tryd.prog 105 #[.agg (posC c), .int .u8 0] w fun e w' => e = .returned (.int .i64 (Y.heldK c 0 5)) ∧ Below w.heap.size w w') := Lib.hid (fun w => d15held_0 c w hc)
  have H1 : Hid (∀ w, Calls Tryd.prog 105 #[.agg (posC c), .int .u8 1] w fun e w' => e = .returned (.int .i64 (Y.heldK c 1 5)) ∧ Below w.heap.size w w') := Lib.hid (fun w => d15held_1 c w hc)
  have Hc := Lib.hid (pos_bd hc)
  have HLaw := Lib.hid ((lawB_iff c).1 hl)
  obtain ⟨h0, e0⟩ : ∃ h, Y.heldK c 0 5 = h := ⟨_, rfl⟩
  obtain ⟨h1, e1⟩ : ∃ h, Y.heldK c 1 5 = h := ⟨_, rfl⟩
  rw [e0] at H0 l0 m0
  rw [e1] at H1 l1 m1
  rw [e0, e1]
  clear hc hl e0 e1
  go_enter Tryd.func70, Tryd.ntmps70
  go_wp2
  refine region_below (by kernel_rfl) (by kernel_rfl) ?_
  try simp only [Act.put]
  repeat (first
    | (go_big_quiet_want; refine quiet_load_box _ rfl ⟨_, _, rfl, hp, ?_⟩; simp only [Act.put, List.setIfInBounds_toArray, List.set_cons_succ, List.set_cons_zero]; go_big_quiet_on)
    | go_big_quiet_step (first
      | (go_at_call 105; (with_reducible exact quiet_below (H0.out _)))
      | (go_at_call 105; (with_reducible exact quiet_below (H1.out _)))))
  refine wpQuiet_nil ?_
  intro w3 hb3
  have HP := Lib.hid (hp.below hb3)
  have HB := Lib.hid (below_next hb0 hb3)
  clear hb3 hp hb0
  go_wp2
  go_loopw [3, 4] (fun p i wr => ∃ k : Nat, k ≤ 64 ∧ i = .int .i64 (k : Int) ∧ p = .int .i64 (h0 + h1 + (Y.menTo c k : Int)) ∧ PosAt wr w.heap.size c ∧ Below w.heap.size w wr) (fun _ i _ => 64 - (intOf i).toNat)
  case atStart => exact ⟨0, Nat.zero_le _, rfl, (by show Value.int .i64 (h0 + h1) = .int .i64 (h0 + h1 + 0); rw [Int.add_zero]), HP.out, HB.out⟩
  case round =>
    obtain ⟨k, hk, rfl, rfl, hp, hbr⟩ := hrel
    have hm := Y.menTo_le c k
    by_cases hlt : k < 64
    · have hcl := hp.bd hlt
      obtain ⟨x0, x1⟩ := Hc.out k hlt
      have hok := HLaw.out k hlt
      have HE := Lib.hid (show Y.menTo c (k + 1) = if c (1 + k) == 0 then Y.menTo c k else Y.menTo c k + 1 from rfl)
      have HO := Lib.hid ((Y.okL_kind _ x0 x1).symm.trans hok)
      clear hok
      generalize c (1 + k) = x at *
      have HK : Hid (∀ w, Calls Tryd.prog 29 #[.int .u8 x] w fun e w' => e = .returned (.int .u8 (P.kind x)) ∧ w = w') := Lib.hid (fun w => d8kind_any x w x0 x1)
      obtain ⟨M, hM⟩ : ∃ M, Y.menTo c k = M := ⟨_, rfl⟩
      rw [hM] at hm HE ⊢
      clear hM
      cases hq : (P.kind x != 0)
      · have E := Lib.hid (show Y.menTo c (k + 1) = M by
          have := HO.out
          rw [hq, Bool.or_false] at this
          rw [HE.out, this]; rfl)
        go_wp2_with (go_at_call 29; refine (HK.out _).mono ?_; rintro e w' ⟨rfl, rfl⟩)
        go_roundw
        case rel => exact ⟨k + 1, by omega, by go_num, by rw [E.out], hp, hbr⟩
        case measure => simp [intOf]; omega
      · have E := Lib.hid (show Y.menTo c (k + 1) = M + 1 by
          rw [HE.out, if_neg]
          intro h
          have hx : x = 0 := by simpa using h
          rw [hx] at hq
          revert hq
          decide +kernel)
        go_wp2_with (go_at_call 29; refine (HK.out _).mono ?_; rintro e w' ⟨rfl, rfl⟩)
        go_roundw
        case rel => exact ⟨k + 1, by omega, by go_num, by rw [E.out]; go_num, hp, hbr⟩
        case measure => simp [intOf]; omega
    · obtain rfl : k = 64 := by omega
      go_wp2
      go_ret
      exact ⟨rfl, hbr⟩

set_option maxRecDepth 100000 in
set_option maxHeartbeats 4000000 in
theorem d12pockets_no (c : Nat → Int) (w : World) (hc : PosOk c) (h2 : c 0 ≠ 2) :
    Calls Tryd.prog 38 #[.agg (posC c)] w fun e w' => e = .returned (.bool (Y.pockets c)) ∧ Below w.heap.size w w' := by
  have hp := PosAt.new w c
  have c0 := hp.cellK 0 (by decide) .u8 rfl
  have c65 := hp.cellK 65 (by decide) .u64 rfl
  have e2 : (c 0 != 2) = true := by simpa using h2
  have hb0 : Below w.heap.size w (w.alloc (.cells (posC c) 31)) := (Below.refl _ _).alloc (Nat.le_refl _) _
  have E := Lib.hid (show Y.pockets c = (Y.pk0 c && c 65 == 0) by unfold Y.pockets; rw [if_neg h2])
  have HPK := Lib.hid (pos_pk hc)
  clear hc h2
  cases hk : Y.pk0 c <;> cases h6 : (c 65 == 0)
  all_goals
    go_enter Tryd.func38, Tryd.ntmps38
    go_wp2_with (first
      | ((with_reducible refine wp_load_midG rfl 25 _ rfl Tryd.underlying25 rfl ?_); refine ⟨w.heap.size, 66, pkL c, rfl, pk_range hp.in', Tryd.size_pk c, ?_⟩)
      | ((with_reducible refine wpl_eql_pk rfl _ _ _ rfl ?_); refine ⟨c, HPK.out, rfl, rfl, ?_⟩))
    go_ret
    exact ⟨ret_bool (by rw [E.out, hk, h6]; rfl), hb0⟩
set_option maxRecDepth 100000 in
set_option maxHeartbeats 4000000 in
theorem d12pockets_yes (c : Nat → Int) (w : World) (hc : PosOk c) (hl : lawB c = true) (h2 : c 0 = 2) :
    Calls Tryd.prog 38 #[.agg (posC c)] w fun e w' => e = .returned (.bool (Y.pockets c)) ∧ Below w.heap.size w w' := by
  have hp := PosAt.new w c
  have c0 := hp.cellK 0 (by decide) .u8 rfl
  have c66 := hp.cellK 66 (by decide) .u8 rfl
  have c72 := hp.cellK 72 (by decide) .u8 rfl
  have e2 : (c 0 != 2) = false := by rw [h2]; rfl
  have hb0 : Below w.heap.size w (w.alloc (.cells (posC c) 31)) := (Below.refl _ _).alloc (Nat.le_refl _) _
  have HMen : Hid (∀ w, Calls Tryd.prog 70 #[.agg (posC c)] w fun e w' => e = .returned (.int .i64 (Y.heldK c 0 5 + Y.heldK c 1 5 + (Y.menTo c 64 : Int))) ∧ Below w.heap.size w w') := Lib.hid (fun w => d15men_any c w hc hl)
  have Hc := Lib.hid (pos_bd hc)
  have c65 := hp.cellK 65 (by decide) .u64 rfl
  rw [prom_U hc] at c65
  obtain ⟨m, hm⟩ : ∃ m, Y.prom c = m := ⟨_, rfl⟩
  rw [hm] at c65
  have HM := Lib.hid hm
  have H2 := Lib.hid h2
  clear hc hl h2 hm
  go_enter Tryd.func38, Tryd.ntmps38
  go_wp2
  go_loop [3] (fun i => ∃ k : Nat, k ≤ 64 ∧ i = .int .i64 (k : Int) ∧ Y.PrTo c k) (fun i => 64 - (intOf i).toNat)
  case atStart => exact ⟨0, Nat.zero_le _, rfl, fun j hj => by omega⟩
  case round =>
    obtain ⟨k, hk, rfl, hB⟩ := hrel
    have HB := Lib.hid hB
    clear hB
    by_cases hlt : k < 64
    · have hcl := hp.bd hlt
      obtain ⟨x0, x1⟩ := Hc.out k hlt
      have HNo := Lib.hid (fun h => Y.pockets_noP (c := c) H2.out k hlt (by rw [HM.out]; exact h))
      have HYes := Lib.hid (fun h => Y.PrTo.next (c := c) HB.out (by rw [HM.out]; exact h))
      have hw : IntKind.u64.wrap (k : Int) = k := by rw [IntKind.wrap_u64]; omega
      have hdiv : U m / 2 ^ k = U (bShr m k) := by have := bv_shr_nat m k; rwa [Nat.min_eq_left (by omega)] at this
      have hsh : bit (bShr m k) 0 = bit m k := by rw [bit_shr, Nat.add_zero]
      have HF := Lib.hid (show Y.promOk m k (c (1 + k)) = (!bit m k || (decide (2 ≤ P.kind (c (1 + k))) && decide (P.kind (c (1 + k)) ≤ 5))) from rfl)
      generalize c (1 + k) = x at *
      obtain ⟨q0, q6⟩ := Y.kind_bd x x0 x1
      obtain ⟨q, hq⟩ : ∃ q, P.kind x = q := ⟨_, rfl⟩
      have HK : Hid (∀ w, Calls Tryd.prog 29 #[.int .u8 x] w fun e w' => e = .returned (.int .u8 q) ∧ w = w') := Lib.hid (fun w => by rw [← hq]; exact d8kind_any x w x0 x1)
      rw [hq] at HF q0 q6
      clear hq
      cases hbt : bit m k
      · have hqt : (bv1 (bit (bShr m k) 0) == 1) = false := by rw [hsh, hbt]; rfl
        have E := Lib.hid (HYes.out (by rw [HF.out, hbt]; rfl))
        clear hsh hbt
        go_wp2_with (go_at_call 29; refine (HK.out _).mono ?_; rintro e w' ⟨rfl, rfl⟩)
        go_round
        case rel => exact ⟨k + 1, by omega, by go_num, E.out⟩
        case measure => simp [intOf]; omega
      · have hqt : (bv1 (bit (bShr m k) 0) == 1) = true := by rw [hsh, hbt]; rfl
        cases f0 : (q == 0)
        rotate_left
        · have E := Lib.hid (HNo.out (by rw [HF.out, hbt, decide_eq_false (show ¬ 2 ≤ q by simp at f0; omega)]; rfl))
          clear hsh hbt
          go_wp2_with (go_at_call 29; refine (HK.out _).mono ?_; rintro e w' ⟨rfl, rfl⟩)
          go_ret
          exact ⟨ret_bool E.out.symm, hb0⟩
        cases f1 : (q == 1)
        rotate_left
        · have E := Lib.hid (HNo.out (by rw [HF.out, hbt, decide_eq_false (show ¬ 2 ≤ q by simp at f1; omega)]; rfl))
          clear hsh hbt
          go_wp2_with (go_at_call 29; refine (HK.out _).mono ?_; rintro e w' ⟨rfl, rfl⟩)
          go_ret
          exact ⟨ret_bool E.out.symm, hb0⟩
        cases f6 : (q == 6)
        rotate_left
        · have E := Lib.hid (HNo.out (by rw [HF.out, hbt, decide_eq_false (show ¬ q ≤ 5 by simp at f6; omega), Bool.and_false]; rfl))
          clear hsh hbt
          go_wp2_with (go_at_call 29; refine (HK.out _).mono ?_; rintro e w' ⟨rfl, rfl⟩)
          go_ret
          exact ⟨ret_bool E.out.symm, hb0⟩
        · have E := Lib.hid (HYes.out (by rw [HF.out, hbt, decide_eq_true (show 2 ≤ q by simp at f0 f1; omega), decide_eq_true (show q ≤ 5 by simp at f6; omega)]; rfl))
          clear hsh hbt
          go_wp2_with (go_at_call 29; refine (HK.out _).mono ?_; rintro e w' ⟨rfl, rfl⟩)
          go_round
          case rel => exact ⟨k + 1, by omega, by go_num, E.out⟩
          case measure => simp [intOf]; omega
    · obtain rfl : k = 64 := by omega
      have HPB := Lib.hid (And.intro hp hb0)
      cases h6 : (c 66 == 0)
      · have E := Lib.hid (Y.pockets_no0 H2.out (.inl (show c 66 ≠ 0 by simpa using h6)))
        clear hp
        go_wp2
        go_ret
        exact ⟨ret_bool E.out.symm, hb0⟩
      · cases h7 : (c 72 == 0)
        · have E := Lib.hid (Y.pockets_no0 H2.out (.inr (show c 72 ≠ 0 by simpa using h7)))
          clear hp
          go_wp2
          go_ret
          exact ⟨ret_bool E.out.symm, hb0⟩
        · have z6 : c 66 = 0 := by simpa using h6
          have z7 : c 72 = 0 := by simpa using h7
          have E := Lib.hid (show Y.pockets c = decide (Y.heldK c 0 5 + Y.heldK c 1 5 + (Y.menTo c 64 : Int) ≤ 32) by
            rw [Y.pockets_yes H2.out HB.out z6 z7, Y.held_all c z6 z7, Int.add_comm])
          obtain ⟨n, hn⟩ : ∃ n, Y.heldK c 0 5 + Y.heldK c 1 5 + (Y.menTo c 64 : Int) = n := ⟨_, rfl⟩
          rw [hn] at E HMen
          clear z6 z7 hn hp hb0
          go_wp2_with (first
            | ((with_reducible refine wp_load_box_g rfl _ rfl ?_); refine ⟨_, _, rfl, HPB.out.1, ?_⟩)
            | (go_at_call 70; refine (HMen.out _).mono ?_; rintro e w2 ⟨rfl, hb2⟩; have hbr2 := below_next HPB.out.2 hb2))
          go_ret
          exact ⟨ret_bool E.out.symm, hbr2⟩
theorem d12pockets_any (c : Nat → Int) (w : World) (hc : PosOk c) (hl : lawB c = true) :
    Calls Tryd.prog 38 #[.agg (posC c)] w fun e w' => e = .returned (.bool (Y.pockets c)) ∧ Below w.heap.size w w' := by
  by_cases h2 : c 0 = 2
  · exact d12pockets_yes c w hc hl h2
  · exact d12pockets_no c w hc h2
end Go.Proofs.YtlphjjekamhnlaaDoor
