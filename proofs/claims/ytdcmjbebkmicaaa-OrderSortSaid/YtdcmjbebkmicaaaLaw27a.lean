/- The laws of layer 27: OrderTakes. -/
import Derived.Test.YtdcmjbebkmicaaaOrdW
namespace Go.Proofs.Ytdcmjbebkmicaaa
open Go.RowKit Go.Sort Go.Lib

namespace O
theorem sorted_le {c : Nat → Int} {l l' : List Mv} (h : Sorted c l l') (i j : Nat) (a b : Mv) (hij : i < j) (ha : l'[i]? = some a) (hb : l'[j]? = some b) : key c a ≤ key c b := by
  obtain ⟨g, _, hs, rfl⟩ := h
  rw [Array.getElem?_toList, Stab.row_get?] at ha hb
  split at hb
  · rename_i hj
    rw [if_pos (by omega)] at ha
    have := hs i j (Nat.zero_le _) hij hj
    unfold R at this
    rw [← Option.some.inj ha, ← Option.some.inj hb]
    omega
  · cases hb
theorem sorted_mem {c : Nat → Int} {l l' : List Mv} (h : Sorted c l l') (a : Mv) (ha : a ∈ l') : a ∈ l := by
  obtain ⟨g, hp, _, rfl⟩ := h
  obtain ⟨i, hi, e⟩ := List.mem_iff_getElem.1 ha
  rw [Array.length_toList, Stab.row_size] at hi
  have e2 : (Stab.row (place l) l.length g).toList[i]? = some a := by rw [List.getElem?_eq_getElem (by rw [Array.length_toList, Stab.row_size]; exact hi), e]
  rw [Array.getElem?_toList, Stab.row_get?, if_pos hi] at e2
  obtain ⟨y, hy, ey⟩ := hp.within i ⟨Nat.zero_le _, hi⟩
  rw [ey] at e2
  have e3 := Option.some.inj e2
  unfold place at e3
  simp only [id, List.getElem?_eq_getElem hy.2, Option.getD_some] at e3
  rw [← e3]
  exact List.getElem_mem _
theorem key_le {c : Nat → Int} (hc : PosOk c) (a b : Mv) (ha : MvOk a) (hb : MvOk b) (h : key c a ≤ key c b) :
    taken c b ≤ taken c a ∧ (taken c a = taken c b → b.2.2.1 ≤ a.2.2.1 ∧ (a.2.2.1 = b.2.2.1 → 0 < taken c a → moving c a ≤ moving c b)) := by
  have h1 := taken_bd hc a
  have h2 := taken_bd hc b
  have h3 := moving_bd hc a ha
  have h4 := moving_bd hc b hb
  have h5 := ha.2.2.1
  have h6 := hb.2.2.1
  unfold key at h
  refine ⟨?_, fun e => ⟨?_, fun e2 e3 => ?_⟩⟩
  · split at h <;> split at h <;> omega
  · split at h <;> split at h <;> omega
  · rw [if_pos e3, if_pos (by omega)] at h; omega
end O

set_option maxRecDepth 100000 in
set_option maxHeartbeats 4000000 in
theorem orderTakes_walk (c : Nat → Int) (l : List Mv) (v : Value) (w : World) (hc : PosOk c) (hl : ∀ m ∈ l, O.MvOk m) (hr : M.Reads w v l) :
    Calls Try.prog 4 #[.agg (posC c), v] w fun e w' => e = .returned (.bool true) ∧ Below w.heap.size w w' := by
  have hb0 : Below w.heap.size w (w.alloc (.cells (posC c) 31)) := (Below.refl _ _).alloc (Nat.le_refl _) _
  have hp := PosAt.new w c
  obtain ⟨ao, cap, hv, h1, h2, _⟩ := id hr
  subst hv
  have HR := Lib.hid (fun W (hb : Below w.heap.size w W) => hr.below hb)
  have HCL := Lib.hid (And.intro hc hl)
  clear hr hc hl
  go_enter Try.func4, Try.ntmps4
  go_wp2_with fail
  refine (awake27_any _).mono ?_
  rintro e w1 ⟨rfl, hb⟩
  replace hp := hp.below hb
  replace hb0 := below_next hb0 hb
  clear hb
  by_cases hlen : 200 < l.length
  · have hlI : (200 : Int) < (l.length : Int) := by omega
    go_wp2_with fail
    go_ret
    exact ⟨rfl, hb0⟩
  · have hlI : ¬ (200 : Int) < (l.length : Int) := by omega
    go_wp2_with (first
      | ((with_reducible refine wp_load_box rfl _ rfl ?_); refine ⟨_, _, rfl, hp, ?_⟩)
      | ((with_reducible refine wp_load_box_g rfl _ rfl ?_); refine ⟨_, _, rfl, hp, ?_⟩)
      | fail)
    refine (osort_any c l _ w1 HCL.out.1 HCL.out.2 (by omega) (HR.out _ hb0)).mono ?_
    rintro e w2 ⟨v2, l2, rfl, hs, hown, hb⟩
    replace hp := hp.below hb
    replace hb0 := below_next hb0 hb
    clear hb
    have hlen2 := O.sorted_len hs
    by_cases h0 : 0 < l.length
    · obtain ⟨b, cap2, rfl, -, hbs, hnc, hcm, hcell⟩ := M.owns_open hown h0
      have HA := Lib.hid (fun W (h : Below w2.heap.size w2 W) (k : Nat) (m : Mv) (hm : l2[k]? = some m) => (M.at_of hcell k m hm).below h)
      have HP := Lib.hid (fun W (h : Below w2.heap.size w2 W) => hp.below h)
      have HB := Lib.hid hb0
      have HS := Lib.hid hs
      clear hown hcell hp hb0 hs
      obtain ⟨q, hq⟩ : ∃ q, l.length = q := ⟨_, rfl⟩
      have Hq := Lib.hid hq
      rw [hq] at h0 hnc hlen hlI hlen2 ⊢
      unfold maxLen at hcm
      clear hq
      go_wp2_with fail
      go_loopw [6] (fun vi wr => ∃ n : Nat, n + 1 ≤ q ∧ vi = .int .i64 ((n : Int) + 1) ∧ Below w2.heap.size w2 wr) (fun vi _ => q - (intOf vi).toNat)
      case atStart => exact ⟨0, by omega, by simp, Below.refl _ _⟩
      case round =>
        obtain ⟨n, hn, rfl, hbr⟩ := hrel
        by_cases hlt : n + 1 < q
        · obtain ⟨⟨f1, t1, p1, d1, e1⟩, hx1⟩ : ∃ m, l2[n]? = some m := ⟨_, List.getElem?_eq_getElem (by omega)⟩
          obtain ⟨⟨f2, t2, p2, d2, e2⟩, hx2⟩ : ∃ m, l2[n + 1]? = some m := ⟨_, List.getElem?_eq_getElem (by omega)⟩
          have hk := O.key_le HCL.out.1 _ _ (HCL.out.2 _ (O.sorted_mem HS.out _ (List.mem_of_getElem? hx1))) (HCL.out.2 _ (O.sorted_mem HS.out _ (List.mem_of_getElem? hx2))) (O.sorted_le HS.out n (n + 1) _ _ (by omega) hx1 hx2)
          obtain ⟨x, hx⟩ : ∃ x, O.taken c (f1, t1, p1, d1, e1) = x := ⟨_, rfl⟩
          obtain ⟨y, hy⟩ : ∃ y, O.taken c (f2, t2, p2, d2, e2) = y := ⟨_, rfl⟩
          obtain ⟨u, hu⟩ : ∃ u, O.moving c (f1, t1, p1, d1, e1) = u := ⟨_, rfl⟩
          obtain ⟨z, hz⟩ : ∃ z, O.moving c (f2, t2, p2, d2, e2) = z := ⟨_, rfl⟩
          rw [hx, hy, hu, hz] at hk
          dsimp only at hk
          have KT1 := Lib.hid (fun W => O.taken_row c f1 t1 p1 d1 e1 x W HCL.out.1 hx)
          have KT2 := Lib.hid (fun W => O.taken_row c f2 t2 p2 d2 e2 y W HCL.out.1 hy)
          have KM1 := Lib.hid (fun W => O.moving_row c f1 t1 p1 d1 e1 u W HCL.out.1 hu)
          have KM2 := Lib.hid (fun W => O.moving_row c f2 t2 p2 d2 e2 z W HCL.out.1 hz)
          have HF := Lib.hid (fun W (h : Below w2.heap.size w2 W) => (show _ ∧ _ ∧ _ ∧ b < W.heap.size from ⟨HP.out W h, HA.out W h n _ hx1, HA.out W h (n + 1) _ hx2, Nat.lt_of_lt_of_le hbs h.size⟩))
          clear hx hy hu hz hx1 hx2
          obtain ⟨hp, ha, hb, hls⟩ := HF.out _ hbr
          obtain ⟨hk1, hk2⟩ := hk
          have s1 : decide (x < y) = false := by simp; omega
          have hw1 : IntKind.i64.wrap ((n : Int) + 1 - 1) = (n : Int) := by rw [IntKind.wrap_i64]; omega
          by_cases hxy : x = y
          · subst hxy
            obtain ⟨hk3, hk4⟩ := hk2 rfl
            have s2 : decide (p1 < p2) = false := by simp; omega
            clear hk1 hk2
            by_cases hx0 : 0 < x
            · have s3 : decide (0 < x) = true := by simpa using hx0
              by_cases hpp : p1 = p2
              · subst hpp
                have s4 : decide (z < u) = false := by have := hk4 rfl hx0; simp; omega
                clear hk3 hk4
                go_wp2_with fail
                refine region_grows (by kernel_rfl) (by kernel_rfl) ?_
                repeat (first
                  | (go_big_quiet_want; refine quiet_load_grown _ rfl ⟨_, _, rfl, hp, ?_⟩; simp only [Act.put, List.setIfInBounds_toArray, List.set_cons_succ, List.set_cons_zero]; go_big_quiet_on)
                  | (go_big_quiet_want; refine quiet_load_at _ rfl ⟨_, _, _, rfl, ha, ?_⟩; simp only [Act.put, List.setIfInBounds_toArray, List.set_cons_succ, List.set_cons_zero]; go_big_quiet_on)
                  | (go_big_quiet_want; refine quiet_load_at _ rfl ⟨_, _, _, rfl, hb, ?_⟩; simp only [Act.put, List.setIfInBounds_toArray, List.set_cons_succ, List.set_cons_zero]; go_big_quiet_on)
                  | go_big_quiet_step (first
                    | (go_at_call 14; with_reducible exact quiet_grows (KT1.out _))
                    | (go_at_call 14; with_reducible exact quiet_grows (KT2.out _))
                    | (go_at_call 15; with_reducible exact quiet_grows (KM1.out _))
                    | (go_at_call 15; with_reducible exact quiet_grows (KM2.out _))))
                refine wpQuiet_nil ?_
                intro w4 hg4
                have hbw := hbr.trans (hg4.below.mono hbr.size)
                obtain ⟨hp, ha, hb, hls⟩ := HF.out _ hbw
                obtain ⟨a0, a1, a2, a3, a4⟩ := ha.five
                obtain ⟨b0, b1, b2, b3, b4⟩ := hb.five
                go_wp2_with fail
                refine region_grows (by kernel_rfl) (by kernel_rfl) ?_
                repeat (first
                  | (go_big_quiet_want; refine quiet_load_grown _ rfl ⟨_, _, rfl, hp, ?_⟩; simp only [Act.put, List.setIfInBounds_toArray, List.set_cons_succ, List.set_cons_zero]; go_big_quiet_on)
                  | (go_big_quiet_want; refine quiet_load_at _ rfl ⟨_, _, _, rfl, ha, ?_⟩; simp only [Act.put, List.setIfInBounds_toArray, List.set_cons_succ, List.set_cons_zero]; go_big_quiet_on)
                  | (go_big_quiet_want; refine quiet_load_at _ rfl ⟨_, _, _, rfl, hb, ?_⟩; simp only [Act.put, List.setIfInBounds_toArray, List.set_cons_succ, List.set_cons_zero]; go_big_quiet_on)
                  | go_big_quiet_step (first
                    | (go_at_call 14; with_reducible exact quiet_grows (KT1.out _))
                    | (go_at_call 14; with_reducible exact quiet_grows (KT2.out _))
                    | (go_at_call 15; with_reducible exact quiet_grows (KM1.out _))
                    | (go_at_call 15; with_reducible exact quiet_grows (KM2.out _))))
                refine wpQuiet_nil ?_
                intro w5 hg5
                go_wp2_with fail
                go_roundw
                case measure => simp [intOf]; omega
                case rel => exact ⟨n + 1, by omega, by go_num, hbw.trans (hg5.below.mono hbw.size)⟩

              · have s4 : (p1 == p2) = false := by simpa using hpp
                clear hk3 hk4 hpp
                go_wp2_with fail
                refine region_grows (by kernel_rfl) (by kernel_rfl) ?_
                repeat (first
                  | (go_big_quiet_want; refine quiet_load_grown _ rfl ⟨_, _, rfl, hp, ?_⟩; simp only [Act.put, List.setIfInBounds_toArray, List.set_cons_succ, List.set_cons_zero]; go_big_quiet_on)
                  | (go_big_quiet_want; refine quiet_load_at _ rfl ⟨_, _, _, rfl, ha, ?_⟩; simp only [Act.put, List.setIfInBounds_toArray, List.set_cons_succ, List.set_cons_zero]; go_big_quiet_on)
                  | (go_big_quiet_want; refine quiet_load_at _ rfl ⟨_, _, _, rfl, hb, ?_⟩; simp only [Act.put, List.setIfInBounds_toArray, List.set_cons_succ, List.set_cons_zero]; go_big_quiet_on)
                  | go_big_quiet_step (first
                    | (go_at_call 14; with_reducible exact quiet_grows (KT1.out _))
                    | (go_at_call 14; with_reducible exact quiet_grows (KT2.out _))
                    | (go_at_call 15; with_reducible exact quiet_grows (KM1.out _))
                    | (go_at_call 15; with_reducible exact quiet_grows (KM2.out _))))
                refine wpQuiet_nil ?_
                intro w4 hg4
                have hbw := hbr.trans (hg4.below.mono hbr.size)
                obtain ⟨hp, ha, hb, hls⟩ := HF.out _ hbw
                obtain ⟨a0, a1, a2, a3, a4⟩ := ha.five
                obtain ⟨b0, b1, b2, b3, b4⟩ := hb.five
                go_wp2_with fail
                refine region_grows (by kernel_rfl) (by kernel_rfl) ?_
                repeat (first
                  | (go_big_quiet_want; refine quiet_load_grown _ rfl ⟨_, _, rfl, hp, ?_⟩; simp only [Act.put, List.setIfInBounds_toArray, List.set_cons_succ, List.set_cons_zero]; go_big_quiet_on)
                  | (go_big_quiet_want; refine quiet_load_at _ rfl ⟨_, _, _, rfl, ha, ?_⟩; simp only [Act.put, List.setIfInBounds_toArray, List.set_cons_succ, List.set_cons_zero]; go_big_quiet_on)
                  | (go_big_quiet_want; refine quiet_load_at _ rfl ⟨_, _, _, rfl, hb, ?_⟩; simp only [Act.put, List.setIfInBounds_toArray, List.set_cons_succ, List.set_cons_zero]; go_big_quiet_on)
                  | go_big_quiet_step (first
                    | (go_at_call 14; with_reducible exact quiet_grows (KT1.out _))
                    | (go_at_call 14; with_reducible exact quiet_grows (KT2.out _))
                    | (go_at_call 15; with_reducible exact quiet_grows (KM1.out _))
                    | (go_at_call 15; with_reducible exact quiet_grows (KM2.out _))))
                refine wpQuiet_nil ?_
                intro w5 hg5
                go_wp2_with fail
                go_roundw
                case measure => simp [intOf]; omega
                case rel => exact ⟨n + 1, by omega, by go_num, hbw.trans (hg5.below.mono hbw.size)⟩

            · have s3 : decide (0 < x) = false := by simpa using hx0
              clear hk3 hk4
              go_wp2_with fail
              refine region_grows (by kernel_rfl) (by kernel_rfl) ?_
              repeat (first
                | (go_big_quiet_want; refine quiet_load_grown _ rfl ⟨_, _, rfl, hp, ?_⟩; simp only [Act.put, List.setIfInBounds_toArray, List.set_cons_succ, List.set_cons_zero]; go_big_quiet_on)
                | (go_big_quiet_want; refine quiet_load_at _ rfl ⟨_, _, _, rfl, ha, ?_⟩; simp only [Act.put, List.setIfInBounds_toArray, List.set_cons_succ, List.set_cons_zero]; go_big_quiet_on)
                | (go_big_quiet_want; refine quiet_load_at _ rfl ⟨_, _, _, rfl, hb, ?_⟩; simp only [Act.put, List.setIfInBounds_toArray, List.set_cons_succ, List.set_cons_zero]; go_big_quiet_on)
                | go_big_quiet_step (first
                  | (go_at_call 14; with_reducible exact quiet_grows (KT1.out _))
                  | (go_at_call 14; with_reducible exact quiet_grows (KT2.out _))
                  | (go_at_call 15; with_reducible exact quiet_grows (KM1.out _))
                  | (go_at_call 15; with_reducible exact quiet_grows (KM2.out _))))
              refine wpQuiet_nil ?_
              intro w4 hg4
              have hbw := hbr.trans (hg4.below.mono hbr.size)
              obtain ⟨hp, ha, hb, hls⟩ := HF.out _ hbw
              obtain ⟨a0, a1, a2, a3, a4⟩ := ha.five
              obtain ⟨b0, b1, b2, b3, b4⟩ := hb.five
              go_wp2_with fail
              refine region_grows (by kernel_rfl) (by kernel_rfl) ?_
              repeat (first
                | (go_big_quiet_want; refine quiet_load_grown _ rfl ⟨_, _, rfl, hp, ?_⟩; simp only [Act.put, List.setIfInBounds_toArray, List.set_cons_succ, List.set_cons_zero]; go_big_quiet_on)
                | (go_big_quiet_want; refine quiet_load_at _ rfl ⟨_, _, _, rfl, ha, ?_⟩; simp only [Act.put, List.setIfInBounds_toArray, List.set_cons_succ, List.set_cons_zero]; go_big_quiet_on)
                | (go_big_quiet_want; refine quiet_load_at _ rfl ⟨_, _, _, rfl, hb, ?_⟩; simp only [Act.put, List.setIfInBounds_toArray, List.set_cons_succ, List.set_cons_zero]; go_big_quiet_on)
                | go_big_quiet_step (first
                  | (go_at_call 14; with_reducible exact quiet_grows (KT1.out _))
                  | (go_at_call 14; with_reducible exact quiet_grows (KT2.out _))
                  | (go_at_call 15; with_reducible exact quiet_grows (KM1.out _))
                  | (go_at_call 15; with_reducible exact quiet_grows (KM2.out _))))
              refine wpQuiet_nil ?_
              intro w5 hg5
              go_wp2_with fail
              go_roundw
              case measure => simp [intOf]; omega
              case rel => exact ⟨n + 1, by omega, by go_num, hbw.trans (hg5.below.mono hbw.size)⟩

          · have s2 : (x == y) = false := by simpa using hxy
            clear hk1 hk2 hxy
            go_wp2_with fail
            refine region_grows (by kernel_rfl) (by kernel_rfl) ?_
            repeat (first
              | (go_big_quiet_want; refine quiet_load_grown _ rfl ⟨_, _, rfl, hp, ?_⟩; simp only [Act.put, List.setIfInBounds_toArray, List.set_cons_succ, List.set_cons_zero]; go_big_quiet_on)
              | (go_big_quiet_want; refine quiet_load_at _ rfl ⟨_, _, _, rfl, ha, ?_⟩; simp only [Act.put, List.setIfInBounds_toArray, List.set_cons_succ, List.set_cons_zero]; go_big_quiet_on)
              | (go_big_quiet_want; refine quiet_load_at _ rfl ⟨_, _, _, rfl, hb, ?_⟩; simp only [Act.put, List.setIfInBounds_toArray, List.set_cons_succ, List.set_cons_zero]; go_big_quiet_on)
              | go_big_quiet_step (first
                | (go_at_call 14; with_reducible exact quiet_grows (KT1.out _))
                | (go_at_call 14; with_reducible exact quiet_grows (KT2.out _))
                | (go_at_call 15; with_reducible exact quiet_grows (KM1.out _))
                | (go_at_call 15; with_reducible exact quiet_grows (KM2.out _))))
            refine wpQuiet_nil ?_
            intro w4 hg4
            have hbw := hbr.trans (hg4.below.mono hbr.size)
            obtain ⟨hp, ha, hb, hls⟩ := HF.out _ hbw
            obtain ⟨a0, a1, a2, a3, a4⟩ := ha.five
            obtain ⟨b0, b1, b2, b3, b4⟩ := hb.five
            go_wp2_with fail
            refine region_grows (by kernel_rfl) (by kernel_rfl) ?_
            repeat (first
              | (go_big_quiet_want; refine quiet_load_grown _ rfl ⟨_, _, rfl, hp, ?_⟩; simp only [Act.put, List.setIfInBounds_toArray, List.set_cons_succ, List.set_cons_zero]; go_big_quiet_on)
              | (go_big_quiet_want; refine quiet_load_at _ rfl ⟨_, _, _, rfl, ha, ?_⟩; simp only [Act.put, List.setIfInBounds_toArray, List.set_cons_succ, List.set_cons_zero]; go_big_quiet_on)
              | (go_big_quiet_want; refine quiet_load_at _ rfl ⟨_, _, _, rfl, hb, ?_⟩; simp only [Act.put, List.setIfInBounds_toArray, List.set_cons_succ, List.set_cons_zero]; go_big_quiet_on)
              | go_big_quiet_step (first
                | (go_at_call 14; with_reducible exact quiet_grows (KT1.out _))
                | (go_at_call 14; with_reducible exact quiet_grows (KT2.out _))
                | (go_at_call 15; with_reducible exact quiet_grows (KM1.out _))
                | (go_at_call 15; with_reducible exact quiet_grows (KM2.out _))))
            refine wpQuiet_nil ?_
            intro w5 hg5
            go_wp2_with fail
            go_roundw
            case measure => simp [intOf]; omega
            case rel => exact ⟨n + 1, by omega, by go_num, hbw.trans (hg5.below.mono hbw.size)⟩

        · obtain rfl : q = n + 1 := by omega
          go_wp2_with fail
          go_ret
          exact ⟨rfl, below_next HB.out hbr⟩
    · have hz : l.length = 0 := by omega
      have hv2 : ∃ ao2 cap2, v2 = .slice ao2 0 cap2 := by
        obtain ⟨ao2, cap2, e, _⟩ := M.row_open hown
        exact ⟨ao2, cap2, by rw [e, hz]⟩
      obtain ⟨ao2, cap2, rfl⟩ := hv2
      clear hown
      go_wp2_with fail
      refine wp_loop_rounds 1 ?_
      rw [rounds_succ]
      go_wp2_with fail
      go_ret
      exact ⟨rfl, hb0⟩

end Go.Proofs.Ytdcmjbebkmicaaa
