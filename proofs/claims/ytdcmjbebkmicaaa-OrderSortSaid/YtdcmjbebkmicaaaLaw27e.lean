/- The laws of layer 27: OrderSame. -/
import Derived.Test.YtdcmjbebkmicaaaLaw27d
namespace Go.Proofs.Ytdcmjbebkmicaaa
open Go.RowKit Go.Sort Go.Lib

theorem pos_rangeO {w : World} {b : Nat} {t : TypeId} {fr : Nat × Nat} {c : Nat → Int} (hg : w.heap[b]? = some (.cells (posC c) t fr)) : w.rangeAt b 0 (posL c) := fun j v hv => by
  rw [Nat.zero_add]
  simp only [World.cell?, hg]
  simpa [posC] using hv
theorem count_eqn (l : List Mv) (v : Value) (m : Mv) (k : Nat) (w : World) (hr : M.Reads w v l) (hN : l.length ≤ 100000) (hk : l.count m = k) :
    Calls Try.prog 20 #[v, .agg #[.int .i8 m.1, .int .i8 m.2.1, .int .u8 m.2.2.1, .int .u8 m.2.2.2.1, .bool m.2.2.2.2]] w fun e w' => e = .returned (.int .i64 (k : Int)) ∧ Grows w w' := by
  have := count_any l v m w hr hN
  rwa [hk] at this

set_option maxRecDepth 100000 in
set_option maxHeartbeats 4000000 in
theorem orderSame_walk (c : Nat → Int) (l : List Mv) (v : Value) (f' g' p' d' : Int) (c' : Bool) (w : World) (hc : PosOk c) (hl : ∀ m ∈ l, O.MvOk m) (hr : M.Reads w v l) (_ : O.MvOk (f', g', p', d', c')) :
    Calls Try.prog 8 #[.agg (posC c), v, .agg #[.int .i8 f', .int .i8 g', .int .u8 p', .int .u8 d', .bool c']] w fun e w' => e = .returned (.bool true) ∧ Below w.heap.size w w' := by
  obtain ⟨A, hA⟩ : ∃ A : Array Value, #[.int .i8 f', .int .i8 g', .int .u8 p', .int .u8 d', .bool c'] = A := ⟨_, rfl⟩
  obtain ⟨W0, hW0⟩ : ∃ W0, ((w.alloc (.cells (posC c) 31)).alloc (.cells A 33)) = W0 := ⟨_, rfl⟩
  have hS0 : PosAt W0 w.heap.size c ∧ RowAt W0 (w.heap.size + 1) 33 A ∧ Below w.heap.size w W0 := by
    rw [← hW0]
    refine ⟨(PosAt.new w c).alloc _, ?_, ((Grows.alloc _ _).trans (Grows.alloc _ _)).below⟩
    have := RowAt.new (w.alloc (.cells (posC c) 31)) A 33
    rwa [show (w.alloc (.cells (posC c) 31)).heap.size = w.heap.size + 1 by show (w.heap.push _).size = _; simp] at this
  obtain ⟨ao, cap, hv, h1, h2, -⟩ := id hr
  subst hv
  have hs5 : A.size = 5 := by rw [← hA]; rfl
  rw [hA]
  have HAA := Lib.hid hA
  have HR := Lib.hid (fun W (hb : Below w.heap.size w W) => hr.below hb)
  have HCL := Lib.hid (And.intro hc hl)
  have hu := Try.underlying31
  have hinfo : (Try.prog.info? 31).map (·.size) = some (posL c).length := by rw [Try.infoPos]; simp [posL]
  clear hr hA hc hl
  go_enter Try.func8, Try.ntmps8
  go_wp2_with fail
  clear hW0
  refine (awake27_any _).mono ?_
  rintro e w1 ⟨rfl, hb⟩
  have hS1 : PosAt w1 w.heap.size c ∧ RowAt w1 (w.heap.size + 1) 33 A ∧ Below w.heap.size w w1 := ⟨hS0.1.below hb, hS0.2.1.below hb, below_next hS0.2.2 hb⟩
  clear hS0 hb
  by_cases hlen : 100 < l.length
  · have hlI : (100 : Int) < (l.length : Int) := by omega
    go_wp2_with fail
    go_ret
    exact ⟨rfl, hS1.2.2⟩
  · have hlI : ¬ (100 : Int) < (l.length : Int) := by omega
    have HS := Lib.hid (fun W (h : Below w.heap.size w W) => osort_any c l _ W HCL.out.1 HCL.out.2 (by omega) (HR.out W h))
    have HF := Lib.hid (fun W (h : Below w.heap.size w W) => ofirst_any c l _ f' g' p' d' c' W (by omega) (HR.out W h))
    rw [HAA.out] at HF
    go_wp2_with fail
    refine wp_region_held (S := fun W => PosAt W w.heap.size c ∧ RowAt W (w.heap.size + 1) 33 A ∧ Below w.heap.size w W) (by kernel_rfl) ?_
    have hSd : PosAt w1.drew w.heap.size c ∧ RowAt w1.drew (w.heap.size + 1) 33 A ∧ Below w.heap.size w w1.drew := ⟨⟨hS1.1.heap⟩, ⟨hS1.2.1.heap⟩, M.below_drew hS1.2.2 1⟩
    change wpAnyH _ _ _ _ _ _ _ _ w1.drew
    clear hS1
    generalize w1.drew = w2 at hSd ⊢
    refine takeD 0 (some 16) (.agg (posC c)) (by kernel_rfl) (by kernel_rfl) (by kernel_rfl) (by kernel_rfl) (by kernel_rfl) (fun _ _ _ h => h) (yieldsIf_load_mid (by kernel_rfl) 31 (.tmp 3) (by kernel_rfl) w.heap.size 0 (by kernel_rfl) (posL c) _ (fun _ h => pos_rangeO h.1.heap) hu rfl hinfo) hSd ?_
    simp only [Act.put, List.setIfInBounds_toArray, List.set_cons_succ, List.set_cons_zero]
    refine takeD 1 (some 17) (.slice ao l.length cap) (by kernel_rfl) (by kernel_rfl) (by kernel_rfl) (by kernel_rfl) (by kernel_rfl) (fun _ _ _ h => h) (yi_pure (v0 := .slice ao l.length cap) (by kernel_rfl) (fun _ => by kernel_rfl) rfl) hSd ?_
    simp only [Act.put, List.setIfInBounds_toArray, List.set_cons_succ, List.set_cons_zero]
    refine takeD 3 (some 19) (.agg (posC c)) (by kernel_rfl) (by kernel_rfl) (by kernel_rfl) (by kernel_rfl) (by kernel_rfl) (fun _ _ _ h => h) (yieldsIf_load_mid (by kernel_rfl) 31 (.tmp 3) (by kernel_rfl) w.heap.size 0 (by kernel_rfl) (posL c) _ (fun _ h => pos_rangeO h.1.heap) hu rfl hinfo) hSd ?_
    simp only [Act.put, List.setIfInBounds_toArray, List.set_cons_succ, List.set_cons_zero]
    refine takeD 4 (some 20) (.slice ao l.length cap) (by kernel_rfl) (by kernel_rfl) (by kernel_rfl) (by kernel_rfl) (by kernel_rfl) (fun _ _ _ h => h) (yi_pure (v0 := .slice ao l.length cap) (by kernel_rfl) (fun _ => by kernel_rfl) rfl) hSd ?_
    simp only [Act.put, List.setIfInBounds_toArray, List.set_cons_succ, List.set_cons_zero]
    refine takeD 5 (some 21) (.agg A) (by kernel_rfl) (by kernel_rfl) (by kernel_rfl) (by kernel_rfl) (by kernel_rfl) (fun _ _ _ h => h) (yi_load_mv (by kernel_rfl) (.tmp 5) (by kernel_rfl) (w.heap.size + 1) 33 _ (by kernel_rfl) hs5 (fun _ h => h.2.1)) hSd ?_
    simp only [Act.put, List.setIfInBounds_toArray, List.set_cons_succ, List.set_cons_zero]
    refine wpAnyH_all (rs := [2]) (by kernel_rfl) (by simp) (fun i hi => ?_)
    obtain rfl : i = 2 := by simpa using hi
    clear hi
    refine wpOp_atO rfl rfl ?_
    unfold Oper.wp
    go_simp
    refine (HS.out _ hSd.2.2).mono ?_
    rintro e w3 ⟨v2, l2, rfl, hs2, hown2, hb⟩
    have hS3 : PosAt w3 w.heap.size c ∧ RowAt w3 (w.heap.size + 1) 33 A ∧ Below w.heap.size w w3 := ⟨hSd.1.below hb, hSd.2.1.below hb, below_next hSd.2.2 hb⟩
    clear hb
    refine ⟨hS3, ?_⟩
    refine wpAnyH_all (rs := [6]) (by kernel_rfl) (by simp) (fun i hi => ?_)
    obtain rfl : i = 6 := by simpa using hi
    clear hi
    refine wpOp_atO rfl rfl ?_
    unfold Oper.wp
    go_simp
    refine (HF.out _ hS3.2.2).mono ?_
    rintro e w4 ⟨v3, rfl, hown3, hb⟩
    have hS4 : PosAt w4 w.heap.size c ∧ RowAt w4 (w.heap.size + 1) 33 A ∧ Below w.heap.size w w4 := ⟨hS3.1.below hb, hS3.2.1.below hb, below_next hS3.2.2 hb⟩
    replace hown2 := owns_below hown2 hb
    clear hb
    refine ⟨hS4, ?_⟩
    refine takeD 7 (some 7) v2 (by kernel_rfl) (by kernel_rfl) (by kernel_rfl) (by kernel_rfl) (by kernel_rfl) (fun _ _ _ h => h) (yi_pure (v0 := v2) (by kernel_rfl) (fun _ => by kernel_rfl) rfl) hS4 ?_
    simp only [Act.put, List.setIfInBounds_toArray, List.set_cons_succ, List.set_cons_zero]
    refine takeD 8 (some 8) v3 (by kernel_rfl) (by kernel_rfl) (by kernel_rfl) (by kernel_rfl) (by kernel_rfl) (fun _ _ _ h => h) (yi_pure (v0 := v3) (by kernel_rfl) (fun _ => by kernel_rfl) rfl) hS4 ?_
    simp only [Act.put, List.setIfInBounds_toArray, List.set_cons_succ, List.set_cons_zero]
    refine wpAnyH_done (by kernel_rfl) ?_ _
    have hlen2 := O.sorted_len hs2
    obtain ⟨l3, hl3⟩ : ∃ l3, O.first l (f', g', p', d', c') = l3 := ⟨_, rfl⟩
    have hlen3 : l3.length = l.length := by rw [← hl3]; exact O.first_len _ _
    have hp3 : l3.Perm l := by rw [← hl3]; exact O.first_perm _ _
    have hp2 : l2.Perm l := O.sorted_perm HCL.out.1 HCL.out.2 hs2
    have hok2 : ∀ m ∈ l2, O.MvOk m := fun m hm => HCL.out.2 m (O.sorted_mem hs2 m hm)
    rw [hl3] at hown3
    have hr2 : M.Reads w4 v2 l2 := M.reads_own (by rw [hlen2]; exact hown2)
    have hr3 : M.Reads w4 v3 l3 := M.reads_own (by rw [hlen3]; exact hown3)
    obtain ⟨hp, -, hb0⟩ := hS4
    clear hS3 hSd hown2 hown3 HS HF hl3
    obtain ⟨ao2, cap2, hv2, k1, k2, -⟩ := id hr2
    obtain ⟨ao3, cap3, hv3, j1, j2, -⟩ := id hr3
    subst hv2 hv3
    have HP := Lib.hid (show _ ∧ _ ∧ _ ∧ _ from ⟨hp2, hp3, hs2, hok2⟩)
    have Hlen := Lib.hid (And.intro hlen2 hlen3)
    clear hp2 hp3 hs2 hok2 hlen2 hlen3
    go_wp2_with (first
      | ((with_reducible refine wp_load_box rfl _ rfl ?_); refine ⟨_, _, rfl, hp, ?_⟩)
      | fail)
    refine (osort_any c l2 _ w4 HCL.out.1 HP.out.2.2.2 (by have := Hlen.out.1; omega) hr2).mono ?_
    rintro e w5 ⟨v4, l4, rfl, hs4, hown4, hb⟩
    have h42 : l4 = l2 := O.sorted_one HCL.out.1 HP.out.2.2.2 hs4 (O.sorted_self HP.out.2.2.1)
    subst h42
    obtain ⟨hlen2, hlen3⟩ := Hlen.out
    have hr4 : M.Reads w5 v4 l4 := M.reads_own hown4
    replace hr2 := hr2.below hb
    replace hr3 := hr3.below hb
    have hr1 := HR.out _ (below_next hb0 hb)
    have HB := Lib.hid (below_next hb0 hb)
    clear hs4 hown4 hb hb0 hp
    obtain ⟨ao4, cap4, hv4, i1, i2, -⟩ := id hr4
    subst hv4
    have HA1 := Lib.hid (fun W (h : Below w5.heap.size w5 W) i x (hx : l[i]? = some x) => hr1.at h rfl i x hx)
    have HA2 := Lib.hid (fun W (h : Below w5.heap.size w5 W) i x (hx : l4[i]? = some x) => hr2.at h rfl i x hx)
    have HA4 := Lib.hid (fun W (h : Below w5.heap.size w5 W) i x (hx : l4[i]? = some x) => hr4.at h rfl i x hx)
    have HC1 := Lib.hid (fun W (h : Below w5.heap.size w5 W) x k (hk : l.count x = k) => count_eqn l _ x k W (hr1.below h) (by omega) hk)
    have HC2 := Lib.hid (fun W (h : Below w5.heap.size w5 W) x k (hk : l.count x = k) => count_eqn l4 _ x k W (hr2.below h) (by omega) ((HP.out.1.count_eq x).trans hk))
    have HC3 := Lib.hid (fun W (h : Below w5.heap.size w5 W) x k (hk : l.count x = k) => count_eqn l3 _ x k W (hr3.below h) (by omega) ((HP.out.2.1.count_eq x).trans hk))
    rw [hlen2] at k1 i1 HC2 ⊢
    rw [hlen3] at j1 HC3 ⊢
    obtain ⟨q, hq⟩ : ∃ q, l.length = q := ⟨_, rfl⟩
    have Hq := Lib.hid (And.intro hq (hlen2.trans hq))
    rw [hq] at h1 k1 j1 i1 hlen hlI HC1 HC2 HC3 ⊢
    unfold maxLen at k2 h2 j2 i2
    clear hq hlen2 hlen3 hr1 hr2 hr3 hr4 HP
    go_wp2_with fail
    go_loopw [10] (fun vi wr => ∃ n : Nat, n ≤ q ∧ vi = .int .i64 (n : Int) ∧ Below w5.heap.size w5 wr) (fun vi _ => q - (intOf vi).toNat)
    case atStart => exact ⟨0, by omega, rfl, Below.refl _ _⟩
    case round =>
      obtain ⟨n, hn, rfl, hbr⟩ := hrel
      by_cases hlt : n < q
      · obtain ⟨x, hx⟩ : ∃ m, l[n]? = some m := ⟨_, List.getElem?_eq_getElem (by rw [Hq.out.1]; exact hlt)⟩
        obtain ⟨y, hy⟩ : ∃ m, l4[n]? = some m := ⟨_, List.getElem?_eq_getElem (by rw [Hq.out.2]; exact hlt)⟩
        obtain ⟨b1, off1, e1, hbs1, ha1⟩ := HA1.out wr hbr n _ hx
        obtain ⟨b2, off2, e2, hbs2, ha2⟩ := HA2.out wr hbr n _ hy
        obtain ⟨b4, off4, e4, hbs4, ha4⟩ := HA4.out wr hbr n _ hy
        cases e1
        cases e2
        cases e4
        obtain ⟨k, hk⟩ : ∃ k, l.count x = k := ⟨_, rfl⟩
        have K1 := Lib.hid (fun W (h : Below wr.heap.size wr W) => HC1.out W (hbr.trans (h.mono hbr.size)) x k hk)
        have K2 := Lib.hid (fun W (h : Below wr.heap.size wr W) => HC2.out W (hbr.trans (h.mono hbr.size)) x k hk)
        have K3 := Lib.hid (fun W (h : Below wr.heap.size wr W) => HC3.out W (hbr.trans (h.mono hbr.size)) x k hk)
        clear hx hy hk
        have hyy : (y != y) = false := by simp
        go_wp2_with fail
        refine region_grows (by kernel_rfl) (by kernel_rfl) ?_
        repeat (first
          | (go_big_quiet_want; refine quiet_load_at _ rfl ⟨_, _, _, rfl, ha1, ?_⟩; simp only [Act.put, List.setIfInBounds_toArray, List.set_cons_succ, List.set_cons_zero]; go_big_quiet_on)
          | (go_big_quiet_want; refine quiet_load_at _ rfl ⟨_, _, _, rfl, ha2, ?_⟩; simp only [Act.put, List.setIfInBounds_toArray, List.set_cons_succ, List.set_cons_zero]; go_big_quiet_on)
          | (go_big_quiet_want; refine quiet_load_at _ rfl ⟨_, _, _, rfl, ha4, ?_⟩; simp only [Act.put, List.setIfInBounds_toArray, List.set_cons_succ, List.set_cons_zero]; go_big_quiet_on)
          | (go_big_quiet_want; refine quiet_neq_mv _ _ _ rfl ⟨y, y, rfl, rfl, ?_⟩; simp only [hyy, Act.put, List.setIfInBounds_toArray, List.set_cons_succ, List.set_cons_zero]; go_big_quiet_on)
          | go_big_quiet_step (first
            | (go_at_call 20; with_reducible exact quiet_grows (K1.out _ (grown_below _ _ _)))
            | (go_at_call 20; with_reducible exact quiet_grows (K2.out _ (grown_below _ _ _)))
            | (go_at_call 20; with_reducible exact quiet_grows (K3.out _ (grown_below _ _ _)))))
        refine wpQuiet_nil ?_
        intro w6 hg6
        go_wp2_with fail
        exact ⟨⟨n + 1, by omega, by go_num, hbr.trans (hg6.below.mono hbr.size)⟩, by simp [intOf]; omega⟩
      · obtain rfl : q = n := by omega
        go_wp2_with fail
        go_ret
        exact ⟨rfl, HB.out.trans (hbr.mono HB.out.size)⟩

end Go.Proofs.Ytdcmjbebkmicaaa
