/- The document's answer of layer 12 (valid): Mend. -/
import Derived.Test.YtlphjjekamhnlaaDoorDvE
import Derived.Test.YtlphjjekamhnlaaDoorVpF
namespace Go.Proofs.YtlphjjekamhnlaaDoor
open Go.RowKit Go.Sort
attribute [local go_sem] Oper.semAt_some

set_option maxHeartbeats 1000000 in
theorem d12near_any (n a b : Int) (w : World) : Calls Tryd.prog 45 #[.int .i64 n, .int .i64 a, .int .i64 b] w fun e w' => e = .returned (.int .i64 (Y.near n a b)) ∧ w = w' := by
  by_cases h1 : n < a
  · have E := Lib.hid (show Y.near n a b = a by unfold Y.near; rw [if_pos h1])
    have d1 : decide (n < a) = true := decide_eq_true h1
    go_enter Tryd.func45, Tryd.ntmps45
    go_wp2
    go_ret
    exact ⟨by rw [E.out]; rfl, rfl⟩
  · have d1 : decide (n < a) = false := decide_eq_false h1
    by_cases h2 : b < n
    · have E := Lib.hid (show Y.near n a b = b by unfold Y.near; rw [if_neg h1, if_pos h2])
      have d2 : decide (b < n) = true := decide_eq_true h2
      go_enter Tryd.func45, Tryd.ntmps45
      go_wp2
      go_ret
      exact ⟨by rw [E.out]; rfl, rfl⟩
    · have E := Lib.hid (show Y.near n a b = n by unfold Y.near; rw [if_neg h1, if_neg h2])
      have d2 : decide (b < n) = false := decide_eq_false h2
      go_enter Tryd.func45, Tryd.ntmps45
      go_wp2
      go_ret
      exact ⟨by rw [E.out]; rfl, rfl⟩
/-- Mend's boxes: the position at g, the result's at g + 1, the one mended at b. -/
structure DMend (w : World) (g b : Nat) (c d : Nat → Int) (W : World) : Prop where
  pos : PosAt W g c
  res : W.heap[g + 1]? = some (.cells Tryd.zeroCells31 31 (0, 0))
  q : PosAt W b d
  hq : g + 1 < b
  below : Below g w W
theorem DMend.next {w W W' : World} {g b : Nat} {c d : Nat → Int} (h : DMend w g b c d W) (hb : Below W.heap.size W W') : DMend w g b c d W' := by
  have := h.q.lt
  have := h.hq
  exact ⟨h.pos.below hb, (hb.block _ (by omega)).trans h.res, h.q.below hb, h.hq, h.below.trans (hb.mono (by omega))⟩
theorem DMend.put {w W W' : World} {g b : Nat} {c d e : Nat → Int} (h : DMend w g b c d W) (hP : Put b W W') (hq : PosAt W' b e) : DMend w g b c e W' := by
  have := h.hq
  exact ⟨hP.pos h.pos (by omega), (hP.block _ (by omega)).trans h.res, hq, h.hq, hP.below h.below (by omega)⟩
theorem dmend_start {w W W' : World} {g b : Nat} {c : Nat → Int} (h : PosAt W g c ∧ W.heap[g + 1]? = some (.cells Tryd.zeroCells31 31 (0, 0)) ∧ Below g w W) (hb : W.heap.size = b) (hP : Put b (W.alloc (.cells Tryd.zeroCells31 31)) W') (hq : PosAt W' b c) (hg : g + 1 < b) : DMend w g b c c W' :=
  ⟨hP.pos (h.1.alloc _) (by omega), (hP.block _ (by omega)).trans ((Below.heap_alloc _ _ _ (by omega)).trans h.2.1), hq, hg, hP.below (h.2.2.alloc (by omega) _) (by omega)⟩

set_option maxRecDepth 100000 in
set_option maxHeartbeats 8000000 in
theorem d12mend_plain (c : Nat → Int) (w : World) (hc : PosOk c) (hpl : Y.plain c = true) :
    Calls Tryd.prog 22 #[.agg (posC c)] w fun e w' => e = .returned (.agg (posC (Y.mend c))) ∧ Below w.heap.size w w' := by
  have ht : c 78 = 0 ∨ c 78 = 1 := Y.t01 hc hpl
  obtain ⟨_, _, hlo, h64⟩ := Y.head_bd hpl
  have HPl : Hid (∀ w, Calls Tryd.prog 35 #[.agg (posC c)] w fun e w' => e = .returned (.bool true) ∧ Below w.heap.size w w') := Lib.hid (fun w => by rw [← hpl]; exact d12plain_any c w hc)
  have HRt : Hid (∀ (t k : Nat) W, t < 2 → k < 2 → Calls Tryd.prog 39 #[.agg (posC c), .int .u8 (t : Int), .int .i64 (k : Int)] W fun e w' => e = .returned (.bool (Y.right c t k)) ∧ Below W.heap.size W w') := Lib.hid (fun t k W ht hk => d12right_any c t k W hc ht hk (Y.side_rook hpl t k ht hk).1 (Y.side_rook hpl t k ht hk).2)
  have HPs : Hid (∀ W, Calls Tryd.prog 40 #[.agg (posC c)] W fun e w' => e = .returned (.bool (Y.passing c)) ∧ Below W.heap.size W w') := Lib.hid (fun W => d12passing_any c W hc ht hlo h64)
  have HE := Lib.hid (show Y.mend c = upd (upd (Y.mendP c) 86 (Y.near (c 86) 0 10000)) 87 (Y.near (c 87) 1 10000) by unfold Y.mend; rw [if_pos hpl])
  have HMP := Lib.hid (show Y.mendP c = if Y.passing c = true then Y.mendR c else upd (Y.mendR c) 83 (-1) from rfl)
  have HN1 : Hid (∀ w, Calls Tryd.prog 45 #[.int .i64 (c 86), .int .i64 0, .int .i64 10000] w fun e w' => e = .returned (.int .i64 (Y.near (c 86) 0 10000)) ∧ w = w') := Lib.hid (fun w => d12near_any _ _ _ w)
  have HN2 : Hid (∀ w, Calls Tryd.prog 45 #[.int .i64 (c 87), .int .i64 1, .int .i64 10000] w fun e w' => e = .returned (.int .i64 (Y.near (c 87) 1 10000)) ∧ w = w') := Lib.hid (fun w => d12near_any _ _ _ w)
  clear hpl ht hlo h64 hc
  have hp := PosAt.new w c
  have hb0 : Below w.heap.size w (w.alloc (.cells (posC c) 31)) := (Below.refl _ _).alloc (Nat.le_refl _) _
  have hz := heap_alloc_new (w.alloc (.cells (posC c) 31)) (.cells Tryd.zeroCells31 31)
  rw [World.size_alloc] at hz
  have hp1 := hp.alloc (.cells Tryd.zeroCells31 31)
  have hb1 := hb0.alloc hb0.size (.cells Tryd.zeroCells31 31)
  have hs1 : ((w.alloc (.cells (posC c) 31)).alloc (.cells Tryd.zeroCells31 31)).heap.size = w.heap.size + 2 := by simp
  obtain ⟨W1, hW1⟩ : ∃ W, (w.alloc (.cells (posC c) 31)).alloc (.cells Tryd.zeroCells31 31) = W := ⟨_, rfl⟩
  rw [hW1] at hz hp1 hb1 hs1
  have HP1 := Lib.hid (And.intro hp1 (And.intro hz (And.intro hb1 hs1)))
  clear hz hb0 hb1 hp hp1
  go_enter Tryd.func22, Tryd.ntmps22
  go_wp2_with (first
    | ((with_reducible refine wp_load_box_g rfl _ rfl ?_); refine ⟨_, _, rfl, HP4.out.1, ?_⟩)
    | ((with_reducible refine wp_load_box_g rfl _ rfl ?_); refine ⟨_, _, rfl, HP1.out.1, ?_⟩)
    | (go_at_call 35; refine (HPl.out _).mono ?_; rintro e w4 ⟨rfl, hb4⟩; have HP4 := Lib.hid (show PosAt w4 w.heap.size c ∧ w4.heap[w.heap.size + 1]? = some (.cells Tryd.zeroCells31 31 (0, 0)) ∧ Below w.heap.size w w4 from ⟨HP1.out.1.below hb4, (hb4.block _ (by have := HP1.out.2.2.2; omega)).trans HP1.out.2.1, HP1.out.2.2.1.trans (hb4.mono (by have := HP1.out.2.2.2; omega))⟩); have hs4 : w.heap.size + 1 < w4.heap.size := (by have := HP1.out.2.2.2; have := hb4.size; omega); clear hb4)
    | ((with_reducible refine wp_store_box rfl _ _ rfl ?_); refine ⟨w4.heap.size, c, rfl, rfl, ⟨_, heap_alloc_new _ _, (by kernel_rfl)⟩, ?_⟩; intro W5 hP5 hq5; have HM2 := Lib.hid (dmend_start HP4.out rfl hP5 hq5 hs4); clear hP5 hq5))
  obtain ⟨g, hg⟩ : ∃ g, w4.heap.size = g := ⟨_, rfl⟩
  rw [hg] at HM2 hs4 ⊢
  clear HP4 HP1 hW1 hs1 hg HPl
  go_loopw [4] (fun i wr => ∃ t : Nat, t ≤ 2 ∧ i = .int .u8 (t : Int) ∧ DMend w w.heap.size g c (Y.mAt c (2 * t)) wr) (fun i _ => 2 - (intOf i).toNat)
  case atStart => exact ⟨0, Nat.zero_le _, rfl, HM2.out⟩
  case round =>
    obtain ⟨t, htt, rfl, hM⟩ := hrel
    have HMt := Lib.hid hM
    clear hM HM2
    rcases (show t = 0 ∨ t = 1 ∨ t = 2 by omega) with rfl | rfl | rfl
    · go_wp2
      go_loopw [5] (fun i wr => ∃ k : Nat, k ≤ 2 ∧ i = .int .i64 (k : Int) ∧ DMend w w.heap.size g c (Y.mAt c (0 + k)) wr) (fun i _ => 2 - (intOf i).toNat)
      case atStart => exact ⟨0, Nat.zero_le _, rfl, HMt.out⟩
      case round =>
        obtain ⟨k, hk, rfl, hM⟩ := hrel
        have HMk := Lib.hid hM
        clear hM
        rcases (show k = 0 ∨ k = 1 ∨ k = 2 by omega) with rfl | rfl | rfl
        · have HR : Hid (∀ W, Calls Tryd.prog 39 #[.agg (posC c), .int .u8 0, .int .i64 0] W fun e w' => e = .returned (.bool (Y.right c 0 0)) ∧ Below W.heap.size W w') := Lib.hid (fun W => HRt.out 0 0 W (by omega) (by omega))
          have HS := Lib.hid (show Y.mAt c 1 = if Y.right c 0 0 = true then Y.mAt c 0 else upd (Y.mAt c 0) 79 (-1) from rfl)
          obtain ⟨b, hb⟩ : ∃ b, Y.right c 0 0 = b := ⟨_, rfl⟩
          rw [hb] at HR HS
          clear hb
          cases b
          · have E := Lib.hid (show Y.mAt c 1 = upd (Y.mAt c 0) 79 (-1) from HS.out)
            clear HS
            go_wp2_with (first
              | ((with_reducible refine wp_load_box_g rfl _ rfl ?_); refine ⟨_, _, rfl, HMk.out.pos, ?_⟩)
              | (go_at_call 39; refine (HR.out _).mono ?_; rintro e w5 ⟨rfl, hb5⟩; have HM5 := Lib.hid (HMk.out.next hb5); clear hb5)
              | ((with_reducible refine wp_store_cell rfl _ _ _ rfl ?_); refine ⟨g, 79, _, _, _, rfl, rfl, HM5.out.q, (by decide), rfl, Tryd.size_i8V, ?_⟩; intro W6 hP6 hq6; have HM6 := Lib.hid (HM5.out.put hP6 hq6); clear hP6 hq6))
            go_roundw
            case rel => first | exact ⟨1, by omega, rfl, by rw [show 0 + 1 = 1 from rfl, E.out]; exact HM6.out⟩ | ((repeat apply Exists.intro); exact ⟨⟨1, by omega, rfl, by rw [show 0 + 1 = 1 from rfl, E.out]; exact HM6.out⟩, rfl⟩)
            case measure => simp [intOf]
          · have E := Lib.hid (show Y.mAt c 1 = Y.mAt c 0 from HS.out)
            clear HS
            go_wp2_with (first
              | ((with_reducible refine wp_load_box_g rfl _ rfl ?_); refine ⟨_, _, rfl, HMk.out.pos, ?_⟩)
              | (go_at_call 39; refine (HR.out _).mono ?_; rintro e w5 ⟨rfl, hb5⟩; have HM5 := Lib.hid (HMk.out.next hb5); clear hb5))
            go_roundw
            case rel => first | exact ⟨1, by omega, rfl, by rw [show 0 + 1 = 1 from rfl, E.out]; exact HM5.out⟩ | ((repeat apply Exists.intro); exact ⟨⟨1, by omega, rfl, by rw [show 0 + 1 = 1 from rfl, E.out]; exact HM5.out⟩, rfl⟩)
            case measure => simp [intOf]
        · have HR : Hid (∀ W, Calls Tryd.prog 39 #[.agg (posC c), .int .u8 0, .int .i64 1] W fun e w' => e = .returned (.bool (Y.right c 0 1)) ∧ Below W.heap.size W w') := Lib.hid (fun W => HRt.out 0 1 W (by omega) (by omega))
          have HS := Lib.hid (show Y.mAt c 2 = if Y.right c 0 1 = true then Y.mAt c 1 else upd (Y.mAt c 1) 80 (-1) from rfl)
          obtain ⟨b, hb⟩ : ∃ b, Y.right c 0 1 = b := ⟨_, rfl⟩
          rw [hb] at HR HS
          clear hb
          cases b
          · have E := Lib.hid (show Y.mAt c 2 = upd (Y.mAt c 1) 80 (-1) from HS.out)
            clear HS
            go_wp2_with (first
              | ((with_reducible refine wp_load_box_g rfl _ rfl ?_); refine ⟨_, _, rfl, HMk.out.pos, ?_⟩)
              | (go_at_call 39; refine (HR.out _).mono ?_; rintro e w5 ⟨rfl, hb5⟩; have HM5 := Lib.hid (HMk.out.next hb5); clear hb5)
              | ((with_reducible refine wp_store_cell rfl _ _ _ rfl ?_); refine ⟨g, 80, _, _, _, rfl, rfl, HM5.out.q, (by decide), rfl, Tryd.size_i8V, ?_⟩; intro W6 hP6 hq6; have HM6 := Lib.hid (HM5.out.put hP6 hq6); clear hP6 hq6))
            go_roundw
            case rel => first | exact ⟨2, by omega, rfl, by rw [show 0 + 2 = 2 from rfl, E.out]; exact HM6.out⟩ | ((repeat apply Exists.intro); exact ⟨⟨2, by omega, rfl, by rw [show 0 + 2 = 2 from rfl, E.out]; exact HM6.out⟩, rfl⟩)
            case measure => simp [intOf]
          · have E := Lib.hid (show Y.mAt c 2 = Y.mAt c 1 from HS.out)
            clear HS
            go_wp2_with (first
              | ((with_reducible refine wp_load_box_g rfl _ rfl ?_); refine ⟨_, _, rfl, HMk.out.pos, ?_⟩)
              | (go_at_call 39; refine (HR.out _).mono ?_; rintro e w5 ⟨rfl, hb5⟩; have HM5 := Lib.hid (HMk.out.next hb5); clear hb5))
            go_roundw
            case rel => first | exact ⟨2, by omega, rfl, by rw [show 0 + 2 = 2 from rfl, E.out]; exact HM5.out⟩ | ((repeat apply Exists.intro); exact ⟨⟨2, by omega, rfl, by rw [show 0 + 2 = 2 from rfl, E.out]; exact HM5.out⟩, rfl⟩)
            case measure => simp [intOf]
        · go_wp2
          go_roundw
          case rel => first | exact ⟨1, by omega, rfl, HMk.out⟩ | ((repeat apply Exists.intro); exact ⟨⟨1, by omega, rfl, HMk.out⟩, rfl⟩)
          case measure => simp [intOf]
    · go_wp2
      go_loopw [5] (fun i wr => ∃ k : Nat, k ≤ 2 ∧ i = .int .i64 (k : Int) ∧ DMend w w.heap.size g c (Y.mAt c (2 + k)) wr) (fun i _ => 2 - (intOf i).toNat)
      case atStart => exact ⟨0, Nat.zero_le _, rfl, HMt.out⟩
      case round =>
        obtain ⟨k, hk, rfl, hM⟩ := hrel
        have HMk := Lib.hid hM
        clear hM
        rcases (show k = 0 ∨ k = 1 ∨ k = 2 by omega) with rfl | rfl | rfl
        · have HR : Hid (∀ W, Calls Tryd.prog 39 #[.agg (posC c), .int .u8 1, .int .i64 0] W fun e w' => e = .returned (.bool (Y.right c 1 0)) ∧ Below W.heap.size W w') := Lib.hid (fun W => HRt.out 1 0 W (by omega) (by omega))
          have HS := Lib.hid (show Y.mAt c 3 = if Y.right c 1 0 = true then Y.mAt c 2 else upd (Y.mAt c 2) 81 (-1) from rfl)
          obtain ⟨b, hb⟩ : ∃ b, Y.right c 1 0 = b := ⟨_, rfl⟩
          rw [hb] at HR HS
          clear hb
          cases b
          · have E := Lib.hid (show Y.mAt c 3 = upd (Y.mAt c 2) 81 (-1) from HS.out)
            clear HS
            go_wp2_with (first
              | ((with_reducible refine wp_load_box_g rfl _ rfl ?_); refine ⟨_, _, rfl, HMk.out.pos, ?_⟩)
              | (go_at_call 39; refine (HR.out _).mono ?_; rintro e w5 ⟨rfl, hb5⟩; have HM5 := Lib.hid (HMk.out.next hb5); clear hb5)
              | ((with_reducible refine wp_store_cell rfl _ _ _ rfl ?_); refine ⟨g, 81, _, _, _, rfl, rfl, HM5.out.q, (by decide), rfl, Tryd.size_i8V, ?_⟩; intro W6 hP6 hq6; have HM6 := Lib.hid (HM5.out.put hP6 hq6); clear hP6 hq6))
            go_roundw
            case rel => first | exact ⟨1, by omega, rfl, by rw [show 2 + 1 = 3 from rfl, E.out]; exact HM6.out⟩ | ((repeat apply Exists.intro); exact ⟨⟨1, by omega, rfl, by rw [show 2 + 1 = 3 from rfl, E.out]; exact HM6.out⟩, rfl⟩)
            case measure => simp [intOf]
          · have E := Lib.hid (show Y.mAt c 3 = Y.mAt c 2 from HS.out)
            clear HS
            go_wp2_with (first
              | ((with_reducible refine wp_load_box_g rfl _ rfl ?_); refine ⟨_, _, rfl, HMk.out.pos, ?_⟩)
              | (go_at_call 39; refine (HR.out _).mono ?_; rintro e w5 ⟨rfl, hb5⟩; have HM5 := Lib.hid (HMk.out.next hb5); clear hb5))
            go_roundw
            case rel => first | exact ⟨1, by omega, rfl, by rw [show 2 + 1 = 3 from rfl, E.out]; exact HM5.out⟩ | ((repeat apply Exists.intro); exact ⟨⟨1, by omega, rfl, by rw [show 2 + 1 = 3 from rfl, E.out]; exact HM5.out⟩, rfl⟩)
            case measure => simp [intOf]
        · have HR : Hid (∀ W, Calls Tryd.prog 39 #[.agg (posC c), .int .u8 1, .int .i64 1] W fun e w' => e = .returned (.bool (Y.right c 1 1)) ∧ Below W.heap.size W w') := Lib.hid (fun W => HRt.out 1 1 W (by omega) (by omega))
          have HS := Lib.hid (show Y.mAt c 4 = if Y.right c 1 1 = true then Y.mAt c 3 else upd (Y.mAt c 3) 82 (-1) from rfl)
          obtain ⟨b, hb⟩ : ∃ b, Y.right c 1 1 = b := ⟨_, rfl⟩
          rw [hb] at HR HS
          clear hb
          cases b
          · have E := Lib.hid (show Y.mAt c 4 = upd (Y.mAt c 3) 82 (-1) from HS.out)
            clear HS
            go_wp2_with (first
              | ((with_reducible refine wp_load_box_g rfl _ rfl ?_); refine ⟨_, _, rfl, HMk.out.pos, ?_⟩)
              | (go_at_call 39; refine (HR.out _).mono ?_; rintro e w5 ⟨rfl, hb5⟩; have HM5 := Lib.hid (HMk.out.next hb5); clear hb5)
              | ((with_reducible refine wp_store_cell rfl _ _ _ rfl ?_); refine ⟨g, 82, _, _, _, rfl, rfl, HM5.out.q, (by decide), rfl, Tryd.size_i8V, ?_⟩; intro W6 hP6 hq6; have HM6 := Lib.hid (HM5.out.put hP6 hq6); clear hP6 hq6))
            go_roundw
            case rel => first | exact ⟨2, by omega, rfl, by rw [show 2 + 2 = 4 from rfl, E.out]; exact HM6.out⟩ | ((repeat apply Exists.intro); exact ⟨⟨2, by omega, rfl, by rw [show 2 + 2 = 4 from rfl, E.out]; exact HM6.out⟩, rfl⟩)
            case measure => simp [intOf]
          · have E := Lib.hid (show Y.mAt c 4 = Y.mAt c 3 from HS.out)
            clear HS
            go_wp2_with (first
              | ((with_reducible refine wp_load_box_g rfl _ rfl ?_); refine ⟨_, _, rfl, HMk.out.pos, ?_⟩)
              | (go_at_call 39; refine (HR.out _).mono ?_; rintro e w5 ⟨rfl, hb5⟩; have HM5 := Lib.hid (HMk.out.next hb5); clear hb5))
            go_roundw
            case rel => first | exact ⟨2, by omega, rfl, by rw [show 2 + 2 = 4 from rfl, E.out]; exact HM5.out⟩ | ((repeat apply Exists.intro); exact ⟨⟨2, by omega, rfl, by rw [show 2 + 2 = 4 from rfl, E.out]; exact HM5.out⟩, rfl⟩)
            case measure => simp [intOf]
        · go_wp2
          go_roundw
          case rel => first | exact ⟨2, by omega, rfl, HMk.out⟩ | ((repeat apply Exists.intro); exact ⟨⟨2, by omega, rfl, HMk.out⟩, rfl⟩)
          case measure => simp [intOf]
    · have HMR : Hid (DMend w w.heap.size g c (Y.mendR c) wr) := Lib.hid HMt.out
      clear HMt HRt
      obtain ⟨b, hb⟩ : ∃ b, Y.passing c = b := ⟨_, rfl⟩
      rw [hb] at HPs HMP
      clear hb
      cases b
      · go_upto_region 14 with (first
          | ((with_reducible refine wp_load_box_g rfl _ rfl ?_); refine ⟨_, _, rfl, HMR.out.pos, ?_⟩)
          | (go_at_call 40; refine (HPs.out _).mono ?_; rintro e w5 ⟨rfl, hb5⟩; have HM5 := Lib.hid (HMR.out.next hb5); clear hb5)
          | ((with_reducible refine wp_store_cell rfl _ _ _ rfl ?_); refine ⟨g, 83, _, _, _, rfl, rfl, HM5.out.q, (by decide), rfl, Tryd.size_i8V, ?_⟩; intro W6 hP6 hq6; have HM6 := Lib.hid (HM5.out.put hP6 hq6); clear hP6 hq6))
        have HQ := Lib.hid (show DMend w w.heap.size g c (Y.mendP c) W6 by rw [HMP.out]; exact HM6.out)
        have c86 := HQ.out.pos.cellK 86 (by decide) .i64 rfl
        clear HMR HPs HM5
        go_wp2_with (first
          | (go_at_call 45; (with_reducible refine (HN1.out _).mono ?_); rintro e w' ⟨rfl, rfl⟩)
          | (go_at_call 45; (with_reducible refine (HN2.out _).mono ?_); rintro e w' ⟨rfl, rfl⟩)
          | ((with_reducible refine wp_store_cell rfl _ _ _ rfl ?_); refine ⟨g, 86, _, _, _, rfl, rfl, HQ.out.q, (by decide), rfl, Tryd.size_intV, ?_⟩; intro W7 hP7 hq7; have HM7 := Lib.hid (HQ.out.put hP7 hq7); have c87 := HM7.out.pos.cellK 87 (by decide) .i64 rfl; clear hP7 hq7 c86)
          | ((with_reducible refine wp_store_cell rfl _ _ _ rfl ?_); refine ⟨g, 87, _, _, _, rfl, rfl, HM7.out.q, (by decide), rfl, Tryd.size_intV, ?_⟩; intro W8 hP8 hq8; have HM8 := Lib.hid (HM7.out.put hP8 hq8); clear hP8 hq8 c87)
          | ((with_reducible refine wp_load_box_g rfl _ rfl ?_); refine ⟨_, _, rfl, HM8.out.q, ?_⟩)
          | ((with_reducible refine wp_store_box rfl _ _ rfl ?_); refine ⟨w.heap.size + 1, _, rfl, rfl, ⟨_, HM8.out.res, (by kernel_rfl)⟩, ?_⟩; intro W9 hP9 hq9))
        rw [← HE.out] at hq9
        exact bodyPost_ret (v := .agg (posC (Y.mend c))) (results_cell_row Tryd.results22 _ _ (w.heap.size + 1) 31 _ (0, 0) _ rfl hq9.heap Tryd.underlying31 rfl (posC_info _)) rfl ⟨rfl, hP9.below HM8.out.below (by omega)⟩
      · go_upto_region 14 with (first
          | ((with_reducible refine wp_load_box_g rfl _ rfl ?_); refine ⟨_, _, rfl, HMR.out.pos, ?_⟩)
          | (go_at_call 40; refine (HPs.out _).mono ?_; rintro e w5 ⟨rfl, hb5⟩; have HM5 := Lib.hid (HMR.out.next hb5); clear hb5)
          | ((with_reducible refine wp_store_cell rfl _ _ _ rfl ?_); refine ⟨g, 83, _, _, _, rfl, rfl, HM5.out.q, (by decide), rfl, Tryd.size_i8V, ?_⟩; intro W6 hP6 hq6; have HM6 := Lib.hid (HM5.out.put hP6 hq6); clear hP6 hq6))
        have HQ := Lib.hid (show DMend w w.heap.size g c (Y.mendP c) w5 by rw [HMP.out]; exact HM5.out)
        have c86 := HQ.out.pos.cellK 86 (by decide) .i64 rfl
        clear HMR HPs HM5
        go_wp2_with (first
          | (go_at_call 45; (with_reducible refine (HN1.out _).mono ?_); rintro e w' ⟨rfl, rfl⟩)
          | (go_at_call 45; (with_reducible refine (HN2.out _).mono ?_); rintro e w' ⟨rfl, rfl⟩)
          | ((with_reducible refine wp_store_cell rfl _ _ _ rfl ?_); refine ⟨g, 86, _, _, _, rfl, rfl, HQ.out.q, (by decide), rfl, Tryd.size_intV, ?_⟩; intro W7 hP7 hq7; have HM7 := Lib.hid (HQ.out.put hP7 hq7); have c87 := HM7.out.pos.cellK 87 (by decide) .i64 rfl; clear hP7 hq7 c86)
          | ((with_reducible refine wp_store_cell rfl _ _ _ rfl ?_); refine ⟨g, 87, _, _, _, rfl, rfl, HM7.out.q, (by decide), rfl, Tryd.size_intV, ?_⟩; intro W8 hP8 hq8; have HM8 := Lib.hid (HM7.out.put hP8 hq8); clear hP8 hq8 c87)
          | ((with_reducible refine wp_load_box_g rfl _ rfl ?_); refine ⟨_, _, rfl, HM8.out.q, ?_⟩)
          | ((with_reducible refine wp_store_box rfl _ _ rfl ?_); refine ⟨w.heap.size + 1, _, rfl, rfl, ⟨_, HM8.out.res, (by kernel_rfl)⟩, ?_⟩; intro W9 hP9 hq9))
        rw [← HE.out] at hq9
        exact bodyPost_ret (v := .agg (posC (Y.mend c))) (results_cell_row Tryd.results22 _ _ (w.heap.size + 1) 31 _ (0, 0) _ rfl hq9.heap Tryd.underlying31 rfl (posC_info _)) rfl ⟨rfl, hP9.below HM8.out.below (by omega)⟩

set_option maxRecDepth 100000 in
set_option maxHeartbeats 4000000 in
theorem d12mend_arg (c : Nat → Int) (w : World) (hc : PosOk c) (hpl : Y.plain c = false) :
    Calls Tryd.prog 22 #[.agg (posC c)] w fun e w' => e = .returned (.agg (posC (Y.mend c))) ∧ Below w.heap.size w w' := by
  have HPl : Hid (∀ w, Calls Tryd.prog 35 #[.agg (posC c)] w fun e w' => e = .returned (.bool false) ∧ Below w.heap.size w w') := Lib.hid (fun w => by rw [← hpl]; exact d12plain_any c w hc)
  rw [Y.mend_arg c hpl]
  clear hpl hc
  have hp := PosAt.new w c
  have hb0 : Below w.heap.size w (w.alloc (.cells (posC c) 31)) := (Below.refl _ _).alloc (Nat.le_refl _) _
  have hz := heap_alloc_new (w.alloc (.cells (posC c) 31)) (.cells Tryd.zeroCells31 31)
  rw [World.size_alloc] at hz
  have hp1 := hp.alloc (.cells Tryd.zeroCells31 31)
  have hb1 := hb0.alloc hb0.size (.cells Tryd.zeroCells31 31)
  have hs1 : ((w.alloc (.cells (posC c) 31)).alloc (.cells Tryd.zeroCells31 31)).heap.size = w.heap.size + 2 := by simp
  obtain ⟨W1, hW1⟩ : ∃ W, (w.alloc (.cells (posC c) 31)).alloc (.cells Tryd.zeroCells31 31) = W := ⟨_, rfl⟩
  rw [hW1] at hz hp1 hb1 hs1
  have HP1 := Lib.hid (And.intro hp1 (And.intro hz (And.intro hb1 hs1)))
  clear hz hb0 hb1 hp hp1
  go_enter Tryd.func22, Tryd.ntmps22
  go_wp2_with (first
    | ((with_reducible refine wp_load_box_g rfl _ rfl ?_); refine ⟨_, _, rfl, HP4.out.1, ?_⟩)
    | ((with_reducible refine wp_load_box_g rfl _ rfl ?_); refine ⟨_, _, rfl, HP1.out.1, ?_⟩)
    | (go_at_call 35; refine (HPl.out _).mono ?_; rintro e w4 ⟨rfl, hb4⟩; have HP4 := Lib.hid (show PosAt w4 w.heap.size c ∧ w4.heap[w.heap.size + 1]? = some (.cells Tryd.zeroCells31 31 (0, 0)) ∧ Below w.heap.size w w4 from ⟨HP1.out.1.below hb4, (hb4.block _ (by have := HP1.out.2.2.2; omega)).trans HP1.out.2.1, HP1.out.2.2.1.trans (hb4.mono (by have := HP1.out.2.2.2; omega))⟩); have hs4 : w.heap.size + 1 < w4.heap.size := (by have := HP1.out.2.2.2; have := hb4.size; omega); clear hb4)
    | ((with_reducible refine wp_store_box rfl _ _ rfl ?_); refine ⟨w.heap.size + 1, _, rfl, rfl, ⟨_, HP4.out.2.1, (by kernel_rfl)⟩, ?_⟩; intro W9 hP9 hq9))
  exact bodyPost_ret (v := .agg (posC c)) (results_cell_row Tryd.results22 _ _ (w.heap.size + 1) 31 _ (0, 0) _ rfl hq9.heap Tryd.underlying31 rfl (posC_info _)) rfl ⟨rfl, hP9.below HP4.out.2.2 (by omega)⟩
theorem d12mend_any (c : Nat → Int) (w : World) (hc : PosOk c) :
    Calls Tryd.prog 22 #[.agg (posC c)] w fun e w' => e = .returned (.agg (posC (Y.mend c))) ∧ Below w.heap.size w w' := by
  cases hpl : Y.plain c
  · exact d12mend_arg c w hc hpl
  · exact d12mend_plain c w hc hpl
end Go.Proofs.YtlphjjekamhnlaaDoor
