/- The program's package valid: Check, Mend. -/
import Derived.Test.YtlphjjekamhnlaaDoorVpE
namespace Go.Proofs.YtlphjjekamhnlaaDoor
open Go.RowKit Go.Sort
attribute [local go_sem] Oper.semAt_some

set_option maxRecDepth 100000 in
set_option maxHeartbeats 1000000 in
theorem vfirst_any (c : Nat → Int) (w : World) (hc : PosOk c) (hT : Tb w) :
    Calls Tryd.prog 19 #[.agg (posC c)] w fun e w' => e = .returned (.int .i64 (Y.first c)) ∧ Below w.heap.size w w' := by
  have hp := PosAt.new w c
  have hb0 : Below w.heap.size w (w.alloc (.cells (posC c) 31)) := (Below.refl _ _).alloc (Nat.le_refl _) _
  have HA : Hid (Calls Tryd.prog 17 #[.agg (posC c)] (w.alloc (.cells (posC c) 31)) (Y.End (Y.all c) (w.alloc (.cells (posC c) 31)))) := Lib.hid (vall_any c _ hc (tb_below hT hb0))
  have HF := Lib.hid (show Y.first c = (Y.all c).headD 0 from rfl)
  obtain ⟨L, hL⟩ : ∃ L, Y.all c = L := ⟨_, rfl⟩
  rw [hL] at HA HF
  have HP := Lib.hid (And.intro hp hb0)
  clear hc hT hL hp hb0
  cases L with
  | nil =>
    have E := Lib.hid (show Y.first c = 0 from HF.out)
    go_enter Tryd.func19, Tryd.ntmps19
    go_wp2_with (first
      | ((with_reducible refine wp_load_box_g rfl _ rfl ?_); refine ⟨_, _, rfl, HP.out.1, ?_⟩)
      | (go_at_call 17; refine HA.out.mono ?_; rintro e w2 ⟨x, rfl, hown, hb2⟩; have hbr := below_next HP.out.2 hb2; obtain ⟨ao, cap, rfl, hcap, hcm, hao⟩ := row_open1 hown; clear hown hb2 hao))
    go_ret
    exact ⟨by rw [E.out]; rfl, hbr⟩
  | cons y t =>
    have E := Lib.hid (show Y.first c = y from HF.out)
    go_enter Tryd.func19, Tryd.ntmps19
    go_wp2_with (first
      | ((with_reducible refine wp_load_box_g rfl _ rfl ?_); refine ⟨_, _, rfl, HP.out.1, ?_⟩)
      | (go_at_call 17; refine HA.out.mono ?_; rintro e w2 ⟨x, rfl, hown, hb2⟩; have hbr := below_next HP.out.2 hb2; obtain ⟨ao, cap, rfl, hcap, hcm, hao⟩ := row_open1 hown; obtain ⟨b, rfl, hb3, hl3, hc3⟩ := hao (Nat.succ_pos _); have hf0 : w2.cell? ⟨b, 0, none⟩ = some (.int .i64 y) := hc3 0 _ rfl; clear hown hb2 hao hc3))
    go_ret
    exact ⟨by rw [E.out]; rfl, hbr⟩
theorem vfirst_val (c : Nat → Int) (n : Int) (w : World) (hc : PosOk c) (hT : Tb w) (h : Y.first c = n) :
    Calls Tryd.prog 19 #[.agg (posC c)] w fun e w' => e = .returned (.int .i64 n) ∧ Below w.heap.size w w' := by rw [← h]; exact vfirst_any c w hc hT
namespace Y
/-- Mend's position behind n of the four rights. -/
def mAt (c : Nat → Int) : Nat → Nat → Int
  | 0 => c
  | 1 => mend1 c c 0 0
  | 2 => mend1 c (mend1 c c 0 0) 0 1
  | 3 => mend1 c (mend1 c (mend1 c c 0 0) 0 1) 1 0
  | _ => mendR c
end Y
theorem near_max (n a b : Int) (h : a ≤ b) : min (max n a) b = Y.near n a b := by unfold Y.near; split <;> (try split) <;> omega

theorem Tryd.size_i8V : (Tryd.prog.info? 26).map (·.size) = some 1 := by kernel_rfl
theorem Tryd.size_intV : (Tryd.prog.info? 3).map (·.size) = some 1 := by kernel_rfl
/-- Mend's boxes: the position at g, the result's at g + 1, what is asked at g + 2. -/
structure MendAt (w : World) (g : Nat) (c d : Nat → Int) (W : World) : Prop where
  pos : PosAt W g d
  res : W.heap[g + 1]? = some (.cells Tryd.zeroCells31 31 (0, 0))
  ask : PosIn W (g + 2) 70 c
  below : Below g w W
theorem MendAt.next {w W W' : World} {g : Nat} {c d : Nat → Int} (h : MendAt w g c d W) (hb : Below W.heap.size W W') : MendAt w g c d W' := by
  have := h.ask.lt
  exact ⟨h.pos.below hb, (hb.block _ (by omega)).trans h.res, h.ask.below hb, h.below.trans (hb.mono (by omega))⟩
theorem MendAt.put {w W W' : World} {g : Nat} {c d e : Nat → Int} (h : MendAt w g c d W) (hP : Put g W W') (hq : PosAt W' g e) : MendAt w g c e W' :=
  ⟨hq, (hP.block _ (by omega)).trans h.res, hP.posIn h.ask (by omega), hP.below h.below (Nat.le_refl _)⟩
theorem mend_start {w W W' : World} {c : Nat → Int} {g : Nat} (h : PosAt W g c ∧ W.heap[g + 1]? = some (.cells Tryd.zeroCells31 31 (0, 0)) ∧ Below g w W) (hP : Put (g + 2) W W') (hR : RowAt W' (g + 2) 70 (posC c)) : MendAt w g c c W' :=
  ⟨hP.pos h.1 (by omega), (hP.block _ (by omega)).trans h.2.1, ⟨hR.heap⟩, hP.below h.2.2 (by omega)⟩

set_option maxRecDepth 100000 in
set_option maxHeartbeats 8000000 in
theorem vmend_plain (c : Nat → Int) (w : World) (hc : PosOk c) (hT : Tb w) (hpl : Y.plain c = true) :
    Calls Tryd.prog 21 #[.agg (posC c)] w fun e w' => e = .returned (.agg (posC (Y.mend c))) ∧ Below w.heap.size w w' := by
  have ht : c 78 = 0 ∨ c 78 = 1 := Y.t01 hc hpl
  obtain ⟨_, _, _, h64⟩ := Y.head_bd hpl
  have HPl : Hid (∀ w, Calls Tryd.prog 42 #[.agg (posC c)] w fun e w' => e = .returned (.bool true) ∧ Below w.heap.size w w') := Lib.hid (fun w => by rw [← hpl]; exact vplain_any c w hc)
  have HRt : Hid (∀ (t k : Nat) W, t < 2 → k < 2 → Below w.heap.size w W → Calls Tryd.prog 43 #[.agg (posC c), .int .u8 (t : Int), .int .i64 (k : Int)] W fun e w' => e = .returned (.bool (Y.right c t k)) ∧ Below W.heap.size W w') := Lib.hid (fun t k W ht hk hb => vright_any c t k W hc (tb_below hT hb) ht hk (Y.side_rook hpl t k ht hk).2)
  have HPs : Hid (∀ W, Below w.heap.size w W → Calls Tryd.prog 44 #[.agg (posC c)] W fun e w' => e = .returned (.bool (Y.passing c)) ∧ Below W.heap.size W w') := Lib.hid (fun W hb => vpassing_any c W hc (tb_below hT hb) ht h64)
  have HE := Lib.hid (show Y.mend c = upd (upd (Y.mendP c) 86 (Y.near (c 86) 0 10000)) 87 (Y.near (c 87) 1 10000) by unfold Y.mend; rw [if_pos hpl])
  have HMP := Lib.hid (show Y.mendP c = if Y.passing c = true then Y.mendR c else upd (Y.mendR c) 83 (-1) from rfl)
  have HR86 := Lib.hid (show Y.mendP c 86 = c 86 ∧ Y.mendP c 87 = c 87 from ⟨by rw [Y.mendP_other c 86 (by omega), Y.mendR_other c 86 (by omega)], by rw [Y.mendP_other c 87 (by omega), Y.mendR_other c 87 (by omega)]⟩)
  obtain ⟨b86, b86'⟩ := bounds_i64 (hc 86 (by decide))
  obtain ⟨b87, b87'⟩ := bounds_i64 (hc 87 (by decide))
  clear hT hpl ht h64 hc
  have hp := PosAt.new w c
  have hb0 : Below w.heap.size w (w.alloc (.cells (posC c) 31)) := (Below.refl _ _).alloc (Nat.le_refl _) _
  have hz := heap_alloc_new (w.alloc (.cells (posC c) 31)) (.cells Tryd.zeroCells31 31)
  rw [World.size_alloc] at hz
  have hp1 := hp.alloc (.cells Tryd.zeroCells31 31)
  have hb1 := hb0.alloc hb0.size (.cells Tryd.zeroCells31 31)
  have hs1 : ((w.alloc (.cells (posC c) 31)).alloc (.cells Tryd.zeroCells31 31)).heap.size = w.heap.size + 2 := by simp
  obtain ⟨W1, hW1⟩ : ∃ W, (w.alloc (.cells (posC c) 31)).alloc (.cells Tryd.zeroCells31 31) = W := ⟨_, rfl⟩
  rw [hW1] at hz hp1 hb1 hs1
  have hza := heap_alloc_new W1 (.cells Tryd.zeroCells70 70)
  rw [hs1] at hza
  have HZ := Lib.hid (show PosAt (W1.alloc (.cells Tryd.zeroCells70 70)) w.heap.size c ∧ (W1.alloc (.cells Tryd.zeroCells70 70)).heap[w.heap.size + 1]? = some (.cells Tryd.zeroCells31 31 (0, 0)) ∧ Below w.heap.size w (W1.alloc (.cells Tryd.zeroCells70 70)) from ⟨hp1.alloc _, (Below.heap_alloc _ _ _ (by omega)).trans hz, hb1.alloc (by omega) _⟩)
  have HP1 := Lib.hid hp1
  clear hz hb0 hb1 hp hp1
  go_enter Tryd.func21, Tryd.ntmps21
  go_wp2_with (first
    | ((with_reducible refine wp_load_box_g rfl _ rfl ?_); refine ⟨_, _, rfl, HP1.out, ?_⟩)
    | ((with_reducible refine wpl_build rfl _ _ rfl ?_); refine ⟨_, _, rfl, Tryd.ask_cells c, ?_⟩)
    | ((with_reducible refine wp_store_row' rfl 70 _ _ rfl ?_); refine ⟨w.heap.size + 2, 70, posC c, rfl, rfl, ⟨_, hza, (by rw [posC_size]; rfl)⟩, Tryd.info_Ask.trans (by rw [posC_size]), posC_one c, ?_⟩; intro W3 hP3 hR3; have HM := Lib.hid (mend_start HZ.out hP3 hR3); clear hP3 hR3)
    | ((with_reducible refine wp_load_rowG rfl 70 _ rfl Tryd.underlying70 rfl ?_); refine ⟨w.heap.size + 2, _, posC c, rfl, HM.out.ask.row, Tryd.info_Ask.trans (by rw [posC_size]), ?_⟩)
    | (go_at_call 42; refine (HPl.out _).mono ?_; rintro e w4 ⟨rfl, hb4⟩; have HM2 := Lib.hid (HM.out.next hb4); clear hb4))
  clear HM HZ HP1 hza hW1 hs1
  go_loopw [4] (fun i wr => ∃ t : Nat, t ≤ 2 ∧ i = .int .u8 (t : Int) ∧ MendAt w w.heap.size c (Y.mAt c (2 * t)) wr) (fun i _ => 2 - (intOf i).toNat)
  case atStart => exact ⟨0, Nat.zero_le _, rfl, HM2.out⟩
  case round =>
    obtain ⟨t, htt, rfl, hM⟩ := hrel
    have HMt := Lib.hid hM
    clear hM HM2
    rcases (show t = 0 ∨ t = 1 ∨ t = 2 by omega) with rfl | rfl | rfl
    · go_wp2
      go_loopw [16] (fun i wr => ∃ k : Nat, k ≤ 2 ∧ i = .int .i64 (k : Int) ∧ MendAt w w.heap.size c (Y.mAt c (0 + k)) wr) (fun i _ => 2 - (intOf i).toNat)
      case atStart => exact ⟨0, Nat.zero_le _, rfl, HMt.out⟩
      case round =>
        obtain ⟨k, hk, rfl, hM⟩ := hrel
        have HMk := Lib.hid hM
        clear hM
        rcases (show k = 0 ∨ k = 1 ∨ k = 2 by omega) with rfl | rfl | rfl
        · have HR : Hid (∀ W, Below w.heap.size w W → Calls Tryd.prog 43 #[.agg (posC c), .int .u8 0, .int .i64 0] W fun e w' => e = .returned (.bool (Y.right c 0 0)) ∧ Below W.heap.size W w') := Lib.hid (fun W hb => HRt.out 0 0 W (by omega) (by omega) hb)
          have HS := Lib.hid (show Y.mAt c 1 = if Y.right c 0 0 = true then Y.mAt c 0 else upd (Y.mAt c 0) 79 (-1) from rfl)
          obtain ⟨b, hb⟩ : ∃ b, Y.right c 0 0 = b := ⟨_, rfl⟩
          rw [hb] at HR HS
          clear hb
          cases b
          · have E := Lib.hid (show Y.mAt c 1 = upd (Y.mAt c 0) 79 (-1) from HS.out)
            clear HS
            go_wp2_with (first
              | ((with_reducible refine wp_load_rowG rfl 70 _ rfl Tryd.underlying70 rfl ?_); refine ⟨w.heap.size + 2, _, posC c, rfl, HMk.out.ask.row, Tryd.info_Ask.trans (by rw [posC_size]), ?_⟩)
              | (go_at_call 43; refine (HR.out _ HMk.out.below).mono ?_; rintro e w5 ⟨rfl, hb5⟩; have HM5 := Lib.hid (HMk.out.next hb5); clear hb5)
              | ((with_reducible refine wp_store_cell rfl _ _ _ rfl ?_); refine ⟨w.heap.size, 79, _, _, _, rfl, rfl, HM5.out.pos, (by decide), rfl, Tryd.size_i8V, ?_⟩; intro W6 hP6 hq6; have HM6 := Lib.hid (HM5.out.put hP6 hq6); clear hP6 hq6))
            go_roundw
            case rel => first | exact ⟨1, by omega, rfl, by rw [show 0 + 1 = 1 from rfl, E.out]; exact HM6.out⟩ | ((repeat apply Exists.intro); exact ⟨⟨1, by omega, rfl, by rw [show 0 + 1 = 1 from rfl, E.out]; exact HM6.out⟩, rfl⟩)
            case measure => simp [intOf]
          · have E := Lib.hid (show Y.mAt c 1 = Y.mAt c 0 from HS.out)
            clear HS
            go_wp2_with (first
              | ((with_reducible refine wp_load_rowG rfl 70 _ rfl Tryd.underlying70 rfl ?_); refine ⟨w.heap.size + 2, _, posC c, rfl, HMk.out.ask.row, Tryd.info_Ask.trans (by rw [posC_size]), ?_⟩)
              | (go_at_call 43; refine (HR.out _ HMk.out.below).mono ?_; rintro e w5 ⟨rfl, hb5⟩; have HM5 := Lib.hid (HMk.out.next hb5); clear hb5))
            go_roundw
            case rel => first | exact ⟨1, by omega, rfl, by rw [show 0 + 1 = 1 from rfl, E.out]; exact HM5.out⟩ | ((repeat apply Exists.intro); exact ⟨⟨1, by omega, rfl, by rw [show 0 + 1 = 1 from rfl, E.out]; exact HM5.out⟩, rfl⟩)
            case measure => simp [intOf]
        · have HR : Hid (∀ W, Below w.heap.size w W → Calls Tryd.prog 43 #[.agg (posC c), .int .u8 0, .int .i64 1] W fun e w' => e = .returned (.bool (Y.right c 0 1)) ∧ Below W.heap.size W w') := Lib.hid (fun W hb => HRt.out 0 1 W (by omega) (by omega) hb)
          have HS := Lib.hid (show Y.mAt c 2 = if Y.right c 0 1 = true then Y.mAt c 1 else upd (Y.mAt c 1) 80 (-1) from rfl)
          obtain ⟨b, hb⟩ : ∃ b, Y.right c 0 1 = b := ⟨_, rfl⟩
          rw [hb] at HR HS
          clear hb
          cases b
          · have E := Lib.hid (show Y.mAt c 2 = upd (Y.mAt c 1) 80 (-1) from HS.out)
            clear HS
            go_wp2_with (first
              | ((with_reducible refine wp_load_rowG rfl 70 _ rfl Tryd.underlying70 rfl ?_); refine ⟨w.heap.size + 2, _, posC c, rfl, HMk.out.ask.row, Tryd.info_Ask.trans (by rw [posC_size]), ?_⟩)
              | (go_at_call 43; refine (HR.out _ HMk.out.below).mono ?_; rintro e w5 ⟨rfl, hb5⟩; have HM5 := Lib.hid (HMk.out.next hb5); clear hb5)
              | ((with_reducible refine wp_store_cell rfl _ _ _ rfl ?_); refine ⟨w.heap.size, 80, _, _, _, rfl, rfl, HM5.out.pos, (by decide), rfl, Tryd.size_i8V, ?_⟩; intro W6 hP6 hq6; have HM6 := Lib.hid (HM5.out.put hP6 hq6); clear hP6 hq6))
            go_roundw
            case rel => first | exact ⟨2, by omega, rfl, by rw [show 0 + 2 = 2 from rfl, E.out]; exact HM6.out⟩ | ((repeat apply Exists.intro); exact ⟨⟨2, by omega, rfl, by rw [show 0 + 2 = 2 from rfl, E.out]; exact HM6.out⟩, rfl⟩)
            case measure => simp [intOf]
          · have E := Lib.hid (show Y.mAt c 2 = Y.mAt c 1 from HS.out)
            clear HS
            go_wp2_with (first
              | ((with_reducible refine wp_load_rowG rfl 70 _ rfl Tryd.underlying70 rfl ?_); refine ⟨w.heap.size + 2, _, posC c, rfl, HMk.out.ask.row, Tryd.info_Ask.trans (by rw [posC_size]), ?_⟩)
              | (go_at_call 43; refine (HR.out _ HMk.out.below).mono ?_; rintro e w5 ⟨rfl, hb5⟩; have HM5 := Lib.hid (HMk.out.next hb5); clear hb5))
            go_roundw
            case rel => first | exact ⟨2, by omega, rfl, by rw [show 0 + 2 = 2 from rfl, E.out]; exact HM5.out⟩ | ((repeat apply Exists.intro); exact ⟨⟨2, by omega, rfl, by rw [show 0 + 2 = 2 from rfl, E.out]; exact HM5.out⟩, rfl⟩)
            case measure => simp [intOf]
        · go_wp2
          go_roundw
          case rel => first | exact ⟨1, by omega, rfl, HMk.out⟩ | ((repeat apply Exists.intro); exact ⟨⟨1, by omega, rfl, HMk.out⟩, rfl⟩)
          case measure => simp [intOf]
    · go_wp2
      go_loopw [16] (fun i wr => ∃ k : Nat, k ≤ 2 ∧ i = .int .i64 (k : Int) ∧ MendAt w w.heap.size c (Y.mAt c (2 + k)) wr) (fun i _ => 2 - (intOf i).toNat)
      case atStart => exact ⟨0, Nat.zero_le _, rfl, HMt.out⟩
      case round =>
        obtain ⟨k, hk, rfl, hM⟩ := hrel
        have HMk := Lib.hid hM
        clear hM
        rcases (show k = 0 ∨ k = 1 ∨ k = 2 by omega) with rfl | rfl | rfl
        · have HR : Hid (∀ W, Below w.heap.size w W → Calls Tryd.prog 43 #[.agg (posC c), .int .u8 1, .int .i64 0] W fun e w' => e = .returned (.bool (Y.right c 1 0)) ∧ Below W.heap.size W w') := Lib.hid (fun W hb => HRt.out 1 0 W (by omega) (by omega) hb)
          have HS := Lib.hid (show Y.mAt c 3 = if Y.right c 1 0 = true then Y.mAt c 2 else upd (Y.mAt c 2) 81 (-1) from rfl)
          obtain ⟨b, hb⟩ : ∃ b, Y.right c 1 0 = b := ⟨_, rfl⟩
          rw [hb] at HR HS
          clear hb
          cases b
          · have E := Lib.hid (show Y.mAt c 3 = upd (Y.mAt c 2) 81 (-1) from HS.out)
            clear HS
            go_wp2_with (first
              | ((with_reducible refine wp_load_rowG rfl 70 _ rfl Tryd.underlying70 rfl ?_); refine ⟨w.heap.size + 2, _, posC c, rfl, HMk.out.ask.row, Tryd.info_Ask.trans (by rw [posC_size]), ?_⟩)
              | (go_at_call 43; refine (HR.out _ HMk.out.below).mono ?_; rintro e w5 ⟨rfl, hb5⟩; have HM5 := Lib.hid (HMk.out.next hb5); clear hb5)
              | ((with_reducible refine wp_store_cell rfl _ _ _ rfl ?_); refine ⟨w.heap.size, 81, _, _, _, rfl, rfl, HM5.out.pos, (by decide), rfl, Tryd.size_i8V, ?_⟩; intro W6 hP6 hq6; have HM6 := Lib.hid (HM5.out.put hP6 hq6); clear hP6 hq6))
            go_roundw
            case rel => first | exact ⟨1, by omega, rfl, by rw [show 2 + 1 = 3 from rfl, E.out]; exact HM6.out⟩ | ((repeat apply Exists.intro); exact ⟨⟨1, by omega, rfl, by rw [show 2 + 1 = 3 from rfl, E.out]; exact HM6.out⟩, rfl⟩)
            case measure => simp [intOf]
          · have E := Lib.hid (show Y.mAt c 3 = Y.mAt c 2 from HS.out)
            clear HS
            go_wp2_with (first
              | ((with_reducible refine wp_load_rowG rfl 70 _ rfl Tryd.underlying70 rfl ?_); refine ⟨w.heap.size + 2, _, posC c, rfl, HMk.out.ask.row, Tryd.info_Ask.trans (by rw [posC_size]), ?_⟩)
              | (go_at_call 43; refine (HR.out _ HMk.out.below).mono ?_; rintro e w5 ⟨rfl, hb5⟩; have HM5 := Lib.hid (HMk.out.next hb5); clear hb5))
            go_roundw
            case rel => first | exact ⟨1, by omega, rfl, by rw [show 2 + 1 = 3 from rfl, E.out]; exact HM5.out⟩ | ((repeat apply Exists.intro); exact ⟨⟨1, by omega, rfl, by rw [show 2 + 1 = 3 from rfl, E.out]; exact HM5.out⟩, rfl⟩)
            case measure => simp [intOf]
        · have HR : Hid (∀ W, Below w.heap.size w W → Calls Tryd.prog 43 #[.agg (posC c), .int .u8 1, .int .i64 1] W fun e w' => e = .returned (.bool (Y.right c 1 1)) ∧ Below W.heap.size W w') := Lib.hid (fun W hb => HRt.out 1 1 W (by omega) (by omega) hb)
          have HS := Lib.hid (show Y.mAt c 4 = if Y.right c 1 1 = true then Y.mAt c 3 else upd (Y.mAt c 3) 82 (-1) from rfl)
          obtain ⟨b, hb⟩ : ∃ b, Y.right c 1 1 = b := ⟨_, rfl⟩
          rw [hb] at HR HS
          clear hb
          cases b
          · have E := Lib.hid (show Y.mAt c 4 = upd (Y.mAt c 3) 82 (-1) from HS.out)
            clear HS
            go_wp2_with (first
              | ((with_reducible refine wp_load_rowG rfl 70 _ rfl Tryd.underlying70 rfl ?_); refine ⟨w.heap.size + 2, _, posC c, rfl, HMk.out.ask.row, Tryd.info_Ask.trans (by rw [posC_size]), ?_⟩)
              | (go_at_call 43; refine (HR.out _ HMk.out.below).mono ?_; rintro e w5 ⟨rfl, hb5⟩; have HM5 := Lib.hid (HMk.out.next hb5); clear hb5)
              | ((with_reducible refine wp_store_cell rfl _ _ _ rfl ?_); refine ⟨w.heap.size, 82, _, _, _, rfl, rfl, HM5.out.pos, (by decide), rfl, Tryd.size_i8V, ?_⟩; intro W6 hP6 hq6; have HM6 := Lib.hid (HM5.out.put hP6 hq6); clear hP6 hq6))
            go_roundw
            case rel => first | exact ⟨2, by omega, rfl, by rw [show 2 + 2 = 4 from rfl, E.out]; exact HM6.out⟩ | ((repeat apply Exists.intro); exact ⟨⟨2, by omega, rfl, by rw [show 2 + 2 = 4 from rfl, E.out]; exact HM6.out⟩, rfl⟩)
            case measure => simp [intOf]
          · have E := Lib.hid (show Y.mAt c 4 = Y.mAt c 3 from HS.out)
            clear HS
            go_wp2_with (first
              | ((with_reducible refine wp_load_rowG rfl 70 _ rfl Tryd.underlying70 rfl ?_); refine ⟨w.heap.size + 2, _, posC c, rfl, HMk.out.ask.row, Tryd.info_Ask.trans (by rw [posC_size]), ?_⟩)
              | (go_at_call 43; refine (HR.out _ HMk.out.below).mono ?_; rintro e w5 ⟨rfl, hb5⟩; have HM5 := Lib.hid (HMk.out.next hb5); clear hb5))
            go_roundw
            case rel => first | exact ⟨2, by omega, rfl, by rw [show 2 + 2 = 4 from rfl, E.out]; exact HM5.out⟩ | ((repeat apply Exists.intro); exact ⟨⟨2, by omega, rfl, by rw [show 2 + 2 = 4 from rfl, E.out]; exact HM5.out⟩, rfl⟩)
            case measure => simp [intOf]
        · go_wp2
          go_roundw
          case rel => first | exact ⟨2, by omega, rfl, HMk.out⟩ | ((repeat apply Exists.intro); exact ⟨⟨2, by omega, rfl, HMk.out⟩, rfl⟩)
          case measure => simp [intOf]
    · have HMR : Hid (MendAt w w.heap.size c (Y.mendR c) wr) := Lib.hid HMt.out
      clear HMt HRt HPl
      obtain ⟨b, hb⟩ : ∃ b, Y.passing c = b := ⟨_, rfl⟩
      rw [hb] at HPs HMP
      clear hb
      have hpz := HMR.out.res
      have e21 : w.heap.size + 1 ≠ w.heap.size := by omega
      cases b
      · go_upto_region 15 with (first
          | ((with_reducible refine wp_load_rowG rfl 70 _ rfl Tryd.underlying70 rfl ?_); refine ⟨w.heap.size + 2, _, posC c, rfl, HMR.out.ask.row, Tryd.info_Ask.trans (by rw [posC_size]), ?_⟩)
          | (go_at_call 44; refine (HPs.out _ HMR.out.below).mono ?_; rintro e w5 ⟨rfl, hb5⟩; have HM5 := Lib.hid (HMR.out.next hb5); clear hb5)
          | ((with_reducible refine wp_store_cell rfl _ _ _ rfl ?_); refine ⟨w.heap.size, 83, _, _, _, rfl, rfl, HM5.out.pos, (by decide), rfl, Tryd.size_i8V, ?_⟩; intro W6 hP6 hq6; have HM6 := Lib.hid (HM5.out.put hP6 hq6); clear hP6 hq6))
        have HQ := Lib.hid (show MendAt w w.heap.size c (Y.mendP c) W6 by rw [HMP.out]; exact HM6.out)
        have c86 := HQ.out.pos.cellK 86 (by decide) .i64 rfl
        rw [HR86.out.1] at c86
        clear HMR HPs HM5 hpz
        go_wp2_with (first
          | ((with_reducible refine wp_store_cell rfl _ _ _ rfl ?_); refine ⟨w.heap.size, 86, _, _, _, rfl, rfl, HQ.out.pos, (by decide), rfl, Tryd.size_intV, ?_⟩; intro W7 hP7 hq7; have HM7 := Lib.hid (HQ.out.put hP7 hq7); have c87 := hq7.cellK 87 (by decide) .i64 rfl; rw [upd_other _ _ _ _ (by decide), HR86.out.2] at c87; clear hP7 hq7 c86)
          | ((with_reducible refine wp_store_cell rfl _ _ _ rfl ?_); refine ⟨w.heap.size, 87, _, _, _, rfl, rfl, HM7.out.pos, (by decide), rfl, Tryd.size_intV, ?_⟩; intro W8 hP8 hq8; have HM8 := Lib.hid (HM7.out.put hP8 hq8); clear hP8 hq8 c87)
          | ((with_reducible refine wp_load_box_g rfl _ rfl ?_); refine ⟨_, _, rfl, HM8.out.pos, ?_⟩)
          | ((with_reducible refine wp_store_box rfl _ _ rfl ?_); refine ⟨w.heap.size + 1, _, rfl, rfl, ⟨_, HM8.out.res, (by kernel_rfl)⟩, ?_⟩; intro W9 hP9 hq9))
        rw [near_max _ _ _ (by decide), near_max _ _ _ (by decide), ← HE.out] at hq9
        exact bodyPost_ret (v := .agg (posC (Y.mend c))) (results_cell_row Tryd.results21 _ _ (w.heap.size + 1) 31 _ (0, 0) _ rfl hq9.heap Tryd.underlying31 rfl (posC_info _)) rfl ⟨rfl, hP9.below HM8.out.below (by omega)⟩
      · go_upto_region 15 with (first
          | ((with_reducible refine wp_load_rowG rfl 70 _ rfl Tryd.underlying70 rfl ?_); refine ⟨w.heap.size + 2, _, posC c, rfl, HMR.out.ask.row, Tryd.info_Ask.trans (by rw [posC_size]), ?_⟩)
          | (go_at_call 44; refine (HPs.out _ HMR.out.below).mono ?_; rintro e w5 ⟨rfl, hb5⟩; have HM5 := Lib.hid (HMR.out.next hb5); clear hb5)
          | ((with_reducible refine wp_store_cell rfl _ _ _ rfl ?_); refine ⟨w.heap.size, 83, _, _, _, rfl, rfl, HM5.out.pos, (by decide), rfl, Tryd.size_i8V, ?_⟩; intro W6 hP6 hq6; have HM6 := Lib.hid (HM5.out.put hP6 hq6); clear hP6 hq6))
        have HQ := Lib.hid (show MendAt w w.heap.size c (Y.mendP c) w5 by rw [HMP.out]; exact HM5.out)
        have c86 := HQ.out.pos.cellK 86 (by decide) .i64 rfl
        rw [HR86.out.1] at c86
        clear HMR HPs HM5 hpz
        go_wp2_with (first
          | ((with_reducible refine wp_store_cell rfl _ _ _ rfl ?_); refine ⟨w.heap.size, 86, _, _, _, rfl, rfl, HQ.out.pos, (by decide), rfl, Tryd.size_intV, ?_⟩; intro W7 hP7 hq7; have HM7 := Lib.hid (HQ.out.put hP7 hq7); have c87 := hq7.cellK 87 (by decide) .i64 rfl; rw [upd_other _ _ _ _ (by decide), HR86.out.2] at c87; clear hP7 hq7 c86)
          | ((with_reducible refine wp_store_cell rfl _ _ _ rfl ?_); refine ⟨w.heap.size, 87, _, _, _, rfl, rfl, HM7.out.pos, (by decide), rfl, Tryd.size_intV, ?_⟩; intro W8 hP8 hq8; have HM8 := Lib.hid (HM7.out.put hP8 hq8); clear hP8 hq8 c87)
          | ((with_reducible refine wp_load_box_g rfl _ rfl ?_); refine ⟨_, _, rfl, HM8.out.pos, ?_⟩)
          | ((with_reducible refine wp_store_box rfl _ _ rfl ?_); refine ⟨w.heap.size + 1, _, rfl, rfl, ⟨_, HM8.out.res, (by kernel_rfl)⟩, ?_⟩; intro W9 hP9 hq9))
        rw [near_max _ _ _ (by decide), near_max _ _ _ (by decide), ← HE.out] at hq9
        exact bodyPost_ret (v := .agg (posC (Y.mend c))) (results_cell_row Tryd.results21 _ _ (w.heap.size + 1) 31 _ (0, 0) _ rfl hq9.heap Tryd.underlying31 rfl (posC_info _)) rfl ⟨rfl, hP9.below HM8.out.below (by omega)⟩

set_option maxRecDepth 100000 in
set_option maxHeartbeats 4000000 in
theorem vmend_arg (c : Nat → Int) (w : World) (hc : PosOk c) (hpl : Y.plain c = false) :
    Calls Tryd.prog 21 #[.agg (posC c)] w fun e w' => e = .returned (.agg (posC (Y.mend c))) ∧ Below w.heap.size w w' := by
  have HPl : Hid (∀ w, Calls Tryd.prog 42 #[.agg (posC c)] w fun e w' => e = .returned (.bool false) ∧ Below w.heap.size w w') := Lib.hid (fun w => by rw [← hpl]; exact vplain_any c w hc)
  rw [Y.mend_arg c hpl]
  clear hpl hc
  have hp := PosAt.new w c
  have hb0 : Below w.heap.size w (w.alloc (.cells (posC c) 31)) := (Below.refl _ _).alloc (Nat.le_refl _) _
  have hz := heap_alloc_new (w.alloc (.cells (posC c) 31)) (.cells Tryd.zeroCells31 31)
  rw [World.size_alloc] at hz
  have hp1 := hp.alloc (.cells Tryd.zeroCells31 31)
  have hb1 := hb0.alloc hb0.size (.cells Tryd.zeroCells31 31)
  have hs1 : ((w.alloc (.cells (posC c) 31)).alloc (.cells Tryd.zeroCells31 31)).heap.size = w.heap.size + 2 := by simp
  obtain ⟨W1, hW1⟩ : ∃ W, (w.alloc (.cells (posC c) 31)).alloc (.cells Tryd.zeroCells31 31) = W := ⟨_, rfl⟩
  rw [hW1] at hz hp1 hb1 hs1
  have hza := heap_alloc_new W1 (.cells Tryd.zeroCells70 70)
  rw [hs1] at hza
  have HZ := Lib.hid (show PosAt (W1.alloc (.cells Tryd.zeroCells70 70)) w.heap.size c ∧ (W1.alloc (.cells Tryd.zeroCells70 70)).heap[w.heap.size + 1]? = some (.cells Tryd.zeroCells31 31 (0, 0)) ∧ Below w.heap.size w (W1.alloc (.cells Tryd.zeroCells70 70)) from ⟨hp1.alloc _, (Below.heap_alloc _ _ _ (by omega)).trans hz, hb1.alloc (by omega) _⟩)
  have HP1 := Lib.hid hp1
  clear hz hb0 hb1 hp hp1
  go_enter Tryd.func21, Tryd.ntmps21
  go_wp2_with (first
    | ((with_reducible refine wp_load_box_g rfl _ rfl ?_); refine ⟨_, _, rfl, HM2.out.pos, ?_⟩)
    | ((with_reducible refine wp_load_box_g rfl _ rfl ?_); refine ⟨_, _, rfl, HP1.out, ?_⟩)
    | ((with_reducible refine wpl_build rfl _ _ rfl ?_); refine ⟨_, _, rfl, Tryd.ask_cells c, ?_⟩)
    | ((with_reducible refine wp_store_row' rfl 70 _ _ rfl ?_); refine ⟨w.heap.size + 2, 70, posC c, rfl, rfl, ⟨_, hza, (by rw [posC_size]; rfl)⟩, Tryd.info_Ask.trans (by rw [posC_size]), posC_one c, ?_⟩; intro W3 hP3 hR3; have HM := Lib.hid (mend_start HZ.out hP3 hR3); clear hP3 hR3)
    | ((with_reducible refine wp_load_rowG rfl 70 _ rfl Tryd.underlying70 rfl ?_); refine ⟨w.heap.size + 2, _, posC c, rfl, HM.out.ask.row, Tryd.info_Ask.trans (by rw [posC_size]), ?_⟩)
    | (go_at_call 42; refine (HPl.out _).mono ?_; rintro e w4 ⟨rfl, hb4⟩; have HM2 := Lib.hid (HM.out.next hb4); clear hb4)
    | ((with_reducible refine wp_store_box rfl _ _ rfl ?_); refine ⟨w.heap.size + 1, _, rfl, rfl, ⟨_, HM2.out.res, (by kernel_rfl)⟩, ?_⟩; intro W9 hP9 hq9))
  exact bodyPost_ret (v := .agg (posC c)) (results_cell_row Tryd.results21 _ _ (w.heap.size + 1) 31 _ (0, 0) _ rfl hq9.heap Tryd.underlying31 rfl (posC_info _)) rfl ⟨rfl, hP9.below HM2.out.below (by omega)⟩
theorem vmend_any (c : Nat → Int) (w : World) (hc : PosOk c) (hT : Tb w) :
    Calls Tryd.prog 21 #[.agg (posC c)] w fun e w' => e = .returned (.agg (posC (Y.mend c))) ∧ Below w.heap.size w w' := by
  cases hpl : Y.plain c
  · exact vmend_arg c w hc hpl
  · exact vmend_plain c w hc hT hpl
end Go.Proofs.YtlphjjekamhnlaaDoor
