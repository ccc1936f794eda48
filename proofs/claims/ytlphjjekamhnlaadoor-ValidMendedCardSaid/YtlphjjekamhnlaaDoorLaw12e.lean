/- The laws of layer 12: ValidMended. -/
import Derived.Test.YtlphjjekamhnlaaDoorLaw12d
namespace Go.Proofs.YtlphjjekamhnlaaDoor
open Go.RowKit Go.Sort
attribute [local go_sem] Oper.semAt_some

def bdK : List (Option IntKind) := List.replicate 64 (some .u8)
theorem bdFlatG : flatG Tryd.prog 4 22 = some bdK := of_decide_eq_true (by kernel_rfl)
theorem bdKeyType : Tryd.prog.keyTypeAt 3 22 = true := of_decide_eq_true (by kernel_rfl)
theorem bdFormed (c : Nat → Int) : (Value.agg (bdL c).toArray).formed Tryd.prog 22 = true := by kernel_rfl
theorem bdGuard : Tryd.prog.eqGuardType Tryd.prog.depth 22 = false := by kernel_rfl
theorem bdFlatIs (c : Nat → Int) (hc : BdOk c) : FlatIs bdK (bdL c) := by
  refine ⟨by simp [bdL, bdK], fun i k hi => ?_⟩
  have hlt := (List.getElem?_eq_some_iff.1 hi).1
  have h64 : i < 64 := by simpa [bdK] using hlt
  have : k = some .u8 := by
    unfold bdK at hi
    rw [List.getElem?_replicate, if_pos h64] at hi
    exact (Option.some.inj hi).symm
  subst this
  obtain ⟨x0, x1⟩ := hc i h64
  refine ⟨.int .u8 (c (1 + i)), by unfold bdL; rw [List.getElem?_map, List.getElem?_range h64]; rfl, _, rfl, ?_⟩
  exact u8_wf _ x0 x1
theorem run_equal_bd (c : Nat → Int) (w : World) (hc : BdOk c) : (Op.equal 22 (.agg (bdL c).toArray) (.agg (bdL c).toArray)).run Tryd.prog w = .ok true w := by
  obtain ⟨r, hr, hiff⟩ := run_equalIn_deep 9997 3 22 bdKeyType w 4 4 (.agg (bdL c).toArray) (.agg (bdL c).toArray) _ _ (bdFormed c) (bdFormed c)
    (by show Tryd.prog.keyLits 4 22 (bdL c).toArray.toList = _; exact flatG_key 4 _ _ _ bdFlatG (bdFlatIs c hc)) (by show Tryd.prog.keyLits 4 22 (bdL c).toArray.toList = _; exact flatG_key 4 _ _ _ bdFlatG (bdFlatIs c hc))
  have e : r = true := hiff.2 rfl
  rw [← e]
  exact hr
theorem wpl_eql_bd {ops : Array Oper} {rest : List Oper} {o : Oper} {a : Act} {w : World} {Q : Exit → Act → World → Prop} (hw : Region.wanted o (yielded ops a.tmps) = true) (x y : Operand) (t : TypeId) (ho : o.op = .binOp .eql 22 x y t)
    (h : ∃ c : Nat → Int, BdOk c ∧ a.eval x = .agg (bdL c).toArray ∧ a.eval y = .agg (bdL c).toArray ∧ wpList Tryd.prog ops Q rest (a.put o.dst (.bool true)) w) : wpList Tryd.prog ops Q (o :: rest) a w := by
  obtain ⟨c, hc, hx, hy, h⟩ := h
  refine wpList_step fun K hK => ?_
  rw [if_pos hw]
  unfold Oper.wp
  have hq := run_equal_bd c w hc
  have hg := bdGuard
  have e : (execOp a.eval o).run Tryd.prog w = .ok (.value (.bool true)) w := by
    unfold execOp
    simp only [ho, hx, hy]
    simp [eqGuard, binOp, hq, hg, go_sem]
  rw [e]
  exact hK _ _ h
theorem Tryd.size_bd (c : Nat → Int) : (Tryd.prog.info? 22).map (·.size) = some (bdL c).length := by kernel_rfl
theorem bdL_congr {c d : Nat → Int} (h : ∀ s, s < 64 → c (1 + s) = d (1 + s)) : bdL c = bdL d := by
  unfold bdL
  apply List.map_congr_left
  intro i hi
  rw [h i (by simpa using hi)]
namespace Y
theorem filter_get {α : Type} (p : α → Bool) : ∀ (l : List α) (i : Nat) (x : α), l[i]? = some x → p x = true → (l.filter p)[((l.take i).filter p).length]? = some x
  | [], _, _, h, _ => by cases h
  | a :: l, 0, x, h, hp => by
    simp at h
    subst h
    simp [hp]
  | a :: l, i + 1, x, h, hp => by
    have ih := filter_get p l i x (by simpa using h) hp
    rw [List.take_succ_cons]
    cases ha : p a
    · rw [List.filter_cons_of_neg (by simp [ha]), List.filter_cons_of_neg (by simp [ha])]; exact ih
    · rw [List.filter_cons_of_pos ha, List.filter_cons_of_pos ha]
      simpa using ih
theorem filter_take {α : Type} (p : α → Bool) (l : List α) (i : Nat) (x : α) (h : l[i]? = some x) : ((l.take (i + 1)).filter p).length = ((l.take i).filter p).length + (if p x then 1 else 0) := by
  rw [List.take_add_one, h, List.filter_append, List.length_append]
  cases hp : p x <;> simp [hp]
theorem filter_take_le {α : Type} (p : α → Bool) (l : List α) (i : Nat) : ((l.take i).filter p).length ≤ i :=
  Nat.le_trans (List.length_filter_le _ _) (List.length_take_le _ _)
/-- The errors that stay, of the first k. -/
def cntS (L : List Int) (k : Nat) : Nat := ((L.take k).filter stays).length
end Y

set_option maxRecDepth 100000 in
set_option maxHeartbeats 16000000 in
theorem validMended_walk (c : Nat → Int) (w : World) (hc : PosOk c) (hT : Tb w) :
    Calls Tryd.prog 10 #[.agg (posC c)] w fun e w' => e = .returned (.bool true) ∧ Below w.heap.size w w' := by
  have hp := PosAt.new w c
  have hb0 : Below w.heap.size w (w.alloc (.cells (posC c) 31)) := (Below.refl _ _).alloc (Nat.le_refl _) _
  have HT := Lib.hid (fun W (hb : Below w.heap.size w W) => tb_below hT hb)
  have HO := Lib.hid (mend_ok hc)
  have HC := Lib.hid hc
  have HM : Hid (∀ W, Tb W → Calls Tryd.prog 21 #[.agg (posC c)] W fun e w' => e = .returned (.agg (posC (Y.mend c))) ∧ Below W.heap.size W w') := Lib.hid (fun W h => vmend_any c W hc h)
  have HMM : Hid (∀ W, Tb W → Calls Tryd.prog 21 #[.agg (posC (Y.mend c))] W fun e w' => e = .returned (.agg (posC (Y.mend c))) ∧ Below W.heap.size W w') := Lib.hid (fun W h => by
    have := vmend_any (Y.mend c) W (mend_ok hc) h
    rwa [Y.mend_mend] at this)
  have HA : Hid (∀ W, Tb W → Calls Tryd.prog 17 #[.agg (posC c)] W (Y.End (Y.all c) W)) := Lib.hid (fun W h => vall_any c W hc h)
  have HAM : Hid (∀ W, Tb W → Calls Tryd.prog 17 #[.agg (posC (Y.mend c))] W (Y.End (Y.all (Y.mend c)) W)) := Lib.hid (fun W h => vall_any _ W (mend_ok hc) h)
  have hL8 := all_len c
  have hR8 := all_len (Y.mend c)
  have HSame := Lib.hid (fun h : Y.all c = [] => show samePos (Y.mend c) c = true by rw [Y.mend_well c h]; exact samePos_self c)
  have HArg := Lib.hid (fun h : Y.plain c = false => And.intro (Y.all_arg c h) (show samePos (Y.mend c) c = true by rw [Y.mend_arg c h]; exact samePos_self c))
  have HFil := Lib.hid (fun h : Y.plain c = true => And.intro (Y.all_filter c h) (Y.all_no2 c h))
  have HBd := Lib.hid (show bdL (Y.mend c) = bdL c from bdL_congr (fun s hs => Y.mend_low c _ (.inl (by omega))))
  have H78 := Lib.hid (show Y.mend c 78 = c 78 from Y.mend_low c _ (.inl (by omega)))
  have hss := samePos_self (Y.mend c)
  obtain ⟨m, hm⟩ : ∃ m, Y.mend c = m := ⟨_, rfl⟩
  rw [hm] at HM HMM HO hss HAM hR8 HSame HArg HFil HBd H78
  obtain ⟨L, hL⟩ : ∃ L, Y.all c = L := ⟨_, rfl⟩
  obtain ⟨R, hR⟩ : ∃ R, Y.all m = R := ⟨_, rfl⟩
  rw [hL] at HA hL8 HSame HArg HFil
  rw [hR] at HAM hR8 HFil
  have hu := Tryd.underlying31
  have hinfo : (Tryd.prog.info? 31).map (·.size) = some (posL c).length := by rw [Tryd.infoPos]; simp [posL]
  have hinfm : (Tryd.prog.info? 31).map (·.size) = some (posL m).length := by rw [Tryd.infoPos]; simp [posL]
  have HP0 := Lib.hid (And.intro hp hb0)
  clear hT hc hL hR hm hp hb0
  go_enter Tryd.func10, Tryd.ntmps10
  go_upto_region 2 with (first
    | ((with_reducible refine wp_load_box_g rfl _ rfl ?_); refine ⟨_, _, rfl, HP0.out.1, ?_⟩)
    | (go_at_call 21; refine (HM.out _ (HT.out _ HP0.out.2)).mono ?_; rintro e w2 ⟨rfl, hb2⟩; have hp2 := HP0.out.1.below hb2; have hbr2 := below_next HP0.out.2 hb2; have HP2 := Lib.hid (And.intro hp2 hbr2); clear hp2 hbr2 hb2)
    | ((with_reducible refine wp_store_box rfl _ _ rfl ?_); refine ⟨w2.heap.size, m, rfl, rfl, ⟨_, heap_alloc_new _ _, (by kernel_rfl)⟩, ?_⟩; intro W1 hP hq; have H1 : Hid (Two w w.heap.size w2.heap.size c m W1) := Lib.hid ⟨hP.pos (HP2.out.1.alloc _) (Nat.ne_of_lt HP2.out.1.lt), hq, hP.below (HP2.out.2.alloc HP2.out.2.size _) HP2.out.2.size, HP2.out.1.lt, Nat.le_refl _⟩; clear hP hq))
  obtain ⟨b, hb⟩ : ∃ b, w2.heap.size = b := ⟨_, rfl⟩
  rw [hb] at H1
  try rw [hb]
  clear hb HP0 HP2
  have hSd : Two w w.heap.size b c m W1.drew := ⟨⟨H1.out.p.heap⟩, ⟨H1.out.q.heap⟩, M.below_drew H1.out.below 1, H1.out.lt, H1.out.le⟩
  refine wp_region_held (S := fun w' => Two w w.heap.size b c m w') (by kernel_rfl) ?_
  change wpAnyH _ _ _ _ _ _ _ _ W1.drew
  clear H1
  generalize W1.drew = W2 at hSd ⊢
  refine takeD 0 (some 10) (.agg (posC c)) (by kernel_rfl) (by kernel_rfl) (by kernel_rfl) (by kernel_rfl) (by kernel_rfl) (fun _ _ _ h => h) (yieldsIf_load_mid (by kernel_rfl) 31 (.tmp 1) (by kernel_rfl) w.heap.size 0 (by kernel_rfl) (posL c) _ (fun _ h => pos_range h.p.heap) hu rfl hinfo) hSd ?_
  simp only [Act.put, List.setIfInBounds_toArray, List.set_cons_succ, List.set_cons_zero]
  refine takeD 2 (some 12) (.agg (posC m)) (by kernel_rfl) (by kernel_rfl) (by kernel_rfl) (by kernel_rfl) (by kernel_rfl) (fun _ _ _ h => h) (yieldsIf_load_mid (by kernel_rfl) 31 (.tmp 3) (by kernel_rfl) b 0 (by kernel_rfl) (posL m) _ (fun _ h => pos_range h.q.heap) hu rfl hinfm) hSd ?_
  simp only [Act.put, List.setIfInBounds_toArray, List.set_cons_succ, List.set_cons_zero]
  refine wpAnyH_all (rs := [1]) (by kernel_rfl) (by simp) (fun i hi => ?_)
  obtain rfl : i = 1 := by simpa using hi
  clear hi
  refine wpOp_at rfl rfl ?_
  unfold Oper.wp
  go_simp
  refine (HA.out _ (HT.out _ hSd.below)).mono ?_
  rintro e u3 ⟨v3, rfl, hown3, hb⟩
  have hS3 := hSd.next hb
  clear hb
  refine ⟨hS3, ?_⟩
  refine wpAnyH_all (rs := [3]) (by kernel_rfl) (by simp) (fun i hi => ?_)
  obtain rfl : i = 3 := by simpa using hi
  clear hi
  refine wpOp_at rfl rfl ?_
  unfold Oper.wp
  go_simp
  refine (HAM.out _ (HT.out _ hS3.below)).mono ?_
  rintro e u4 ⟨v4, rfl, hown4, hb⟩
  have hS4 := hS3.next hb
  replace hown3 := owns_below hown3 hb
  clear hb
  refine ⟨hS4, ?_⟩
  obtain ⟨ao, cap, rfl, hcap, hcm, hao⟩ := errs_open hown3
  obtain ⟨ao', cap', rfl, hcap', hcm', hao'⟩ := errs_open hown4
  refine takeD 4 (some 4) (.slice ao L.length cap) (by kernel_rfl) (by kernel_rfl) (by kernel_rfl) (by kernel_rfl) (by kernel_rfl) (fun _ _ _ h => h) (yi_pure (v0 := .slice ao L.length cap) (by kernel_rfl) (fun _ => by kernel_rfl) rfl) hS4 ?_
  simp only [Act.put, List.setIfInBounds_toArray, List.set_cons_succ, List.set_cons_zero]
  refine takeD 5 (some 5) (.slice ao' R.length cap') (by kernel_rfl) (by kernel_rfl) (by kernel_rfl) (by kernel_rfl) (by kernel_rfl) (fun _ _ _ h => h) (yi_pure (v0 := .slice ao' R.length cap') (by kernel_rfl) (fun _ => by kernel_rfl) rfl) hS4 ?_
  simp only [Act.put, List.setIfInBounds_toArray, List.set_cons_succ, List.set_cons_zero]
  refine wpAnyH_done (by kernel_rfl) ?_ _
  have HS := Lib.hid hS4
  have HOw := Lib.hid (And.intro hown3 hown4)
  have HTu := Lib.hid (HT.out _ hS4.below)
  have hpp := hS4.p
  have hqq := hS4.q
  clear hS3 hS4 hSd hown3 hown4 hao hao' hu hinfo hinfm HA HAM HM
  unfold maxLen at hcm hcm'
  obtain ⟨n, hn⟩ : ∃ n, L.length = n := ⟨_, rfl⟩
  obtain ⟨r, hr⟩ : ∃ r, R.length = r := ⟨_, rfl⟩
  have HN := Lib.hid (And.intro hn hr)
  rw [hn] at hL8 hcap ⊢
  rw [hr] at hR8 hcap' ⊢
  have hs0 : n = 0 → samePos m c = true := fun h => HSame.out (List.eq_nil_of_length_eq_zero (hn.trans h))
  have HS0 := Lib.hid hs0
  clear hn hr hs0 HSame
  obtain ⟨sm, hsm⟩ : ∃ s, samePos m c = s := ⟨_, rfl⟩
  rw [hsm] at HS0
  have hz : ((n : Int) == 0) = decide (n = 0) := by
    by_cases h : n = 0
    · subst h; rfl
    · rw [decide_eq_false h]; simpa using h
  cases hpl : Y.plain c
  · obtain ⟨rfl, hsc⟩ := HArg.out hpl
    rw [hsm] at hsc
    subst hsc
    have hn1 : n = 1 := HN.out.1.symm
    subst hn1
    clear HFil HArg HS0 hz hpl
    go_wp2
    refine region_below (by kernel_rfl) (by kernel_rfl) ?_
    try simp only [Act.put]
    repeat (first
      | (go_big_quiet_want; refine quiet_load_box _ rfl ⟨_, m, rfl, hqq, ?_⟩; simp only [Act.put, List.setIfInBounds_toArray, List.set_cons_succ, List.set_cons_zero]; go_big_quiet_on)
      | (go_big_quiet_want; refine quiet_load_box _ rfl ⟨_, c, rfl, hpp, ?_⟩; simp only [Act.put, List.setIfInBounds_toArray, List.set_cons_succ, List.set_cons_zero]; go_big_quiet_on)
      | (go_big_quiet_want; refine quiet_neq_pos _ _ _ rfl ⟨m, m, HO.out, HO.out, rfl, rfl, ?_⟩; rw [hss, Bool.not_true]; simp only [Act.put, List.setIfInBounds_toArray, List.set_cons_succ, List.set_cons_zero]; go_big_quiet_on)
      | (go_big_quiet_want; refine quiet_neq_pos _ _ _ rfl ⟨m, c, HO.out, HC.out, rfl, rfl, ?_⟩; rw [hsm, Bool.not_true]; simp only [Act.put, List.setIfInBounds_toArray, List.set_cons_succ, List.set_cons_zero]; go_big_quiet_on)
      | go_big_quiet_step (first
        | (go_at_call 21; exact quiet_below (HMM.out _ (tb_grow HTu.out)))))
    refine wpQuiet_nil ?_
    intro u5 hb5
    have HB5 := Lib.hid hb5
    clear hb5
    have HSx := Lib.hid (HS.out.next HB5.out)
    have hown := owns_below HOw.out.1 HB5.out
    obtain ⟨ao3, cap3, e3, _, _, hao3⟩ := errs_open hown
    cases e3
    obtain ⟨g1, rfl, hgl, hcc⟩ := hao3 (by decide)
    have hc1 := hcc 0 2 rfl
    clear hcc hao3 hown hpp hqq
    go_wp2_with (first
      | ((with_reducible refine wp_load_box_g rfl _ rfl ?_); refine ⟨_, _, rfl, HSx.out.q, ?_⟩)
      | ((with_reducible refine wp_load_box_g rfl _ rfl ?_); refine ⟨_, _, rfl, HSx.out.p, ?_⟩)
      | ((with_reducible refine wpl_eql_pos rfl _ _ _ rfl ?_); refine ⟨m, c, HO.out, HC.out, rfl, rfl, ?_⟩; rw [hsm])
      | (go_at_call 20; refine (awake12_any _ (HT.out _ HSx.out.below)).mono ?_; rintro e w6 ⟨rfl, hb6⟩; have HB6 := Lib.hid (below_next HSx.out.below hb6); clear hb6))
    go_ret
    exact ⟨rfl, HB6.out⟩
  · obtain ⟨hf, hno⟩ := HFil.out hpl
    have HF := Lib.hid (And.intro hf hno)
    clear HFil HArg hf hno hpl
    by_cases h0 : n = 0
    · have hsc := HS0.out h0
      subst hsc
      have hz0 : ((n : Int) == 0) = true := by rw [hz, decide_eq_true h0]
      have hz1 : ((n : Int) == 1) = false := by simp; omega
      clear HS0 hz h0
      go_wp2
      refine region_below (by kernel_rfl) (by kernel_rfl) ?_
      try simp only [Act.put]
      repeat (first
        | (go_big_quiet_want; refine quiet_load_box _ rfl ⟨_, m, rfl, hqq, ?_⟩; simp only [Act.put, List.setIfInBounds_toArray, List.set_cons_succ, List.set_cons_zero]; go_big_quiet_on)
        | (go_big_quiet_want; refine quiet_load_box _ rfl ⟨_, c, rfl, hpp, ?_⟩; simp only [Act.put, List.setIfInBounds_toArray, List.set_cons_succ, List.set_cons_zero]; go_big_quiet_on)
        | (go_big_quiet_want; refine quiet_neq_pos _ _ _ rfl ⟨m, m, HO.out, HO.out, rfl, rfl, ?_⟩; rw [hss, Bool.not_true]; simp only [Act.put, List.setIfInBounds_toArray, List.set_cons_succ, List.set_cons_zero]; go_big_quiet_on)
        | (go_big_quiet_want; refine quiet_neq_pos _ _ _ rfl ⟨m, c, HO.out, HC.out, rfl, rfl, ?_⟩; rw [hsm, Bool.not_true]; simp only [Act.put, List.setIfInBounds_toArray, List.set_cons_succ, List.set_cons_zero]; go_big_quiet_on)
        | go_big_quiet_step (first
          | (go_at_call 21; exact quiet_below (HMM.out _ (tb_grow HTu.out)))))
      refine wpQuiet_nil ?_
      intro u5 hb5
      have HB5 := Lib.hid hb5
      clear hb5
      have HSx := Lib.hid (HS.out.next HB5.out)
      have HO3 := Lib.hid (And.intro (owns_below HOw.out.1 HB5.out) (owns_below HOw.out.2 HB5.out))
      clear HS HOw hpp hqq HTu HB5
      go_wp2
      clear hz0 hz1
      go_loopw [6, 7] (fun q i wr => ∃ k : Nat, k ≤ n ∧ i = .int .i64 (k : Int) ∧ q = .int .i64 (Y.cntS L k : Int) ∧ Below u5.heap.size u5 wr) (fun _ i _ => n - (intOf i).toNat)
      case atStart => exact ⟨0, Nat.zero_le _, rfl, rfl, Below.refl _ _⟩
      case round =>
        obtain ⟨k, hk, rfl, rfl, hbr⟩ := hrel
        have ho3 := owns_below HO3.out.1 hbr
        have ho4 := owns_below HO3.out.2 hbr
        have HBr := Lib.hid hbr
        obtain ⟨ao3, cap3, e3, _, _, hao⟩ := errs_open ho3
        obtain ⟨ao4, cap4, e4, _, _, hao'⟩ := errs_open ho4
        rw [HN.out.1] at e3 hao
        rw [HN.out.2] at e4 hao'
        cases e3
        cases e4
        have HAo := Lib.hid hao
        have HAo' := Lib.hid hao'
        have hcl : Y.cntS L k ≤ k := Y.filter_take_le _ _ _
        clear ho3 ho4 hbr hao hao'
        by_cases hlt : k < n
        · obtain ⟨x, hx⟩ : ∃ x, L[k]? = some x := ⟨L[k]'(by rw [HN.out.1]; exact hlt), List.getElem?_eq_getElem (by rw [HN.out.1]; exact hlt)⟩
          obtain ⟨b1, hb1, hbl, hcc⟩ := HAo.out (by omega)
          cases hb1
          have hc1 := hcc k x hx
          have HSt := Lib.hid (show Y.cntS L (k + 1) = Y.cntS L k + (if Y.stays x then 1 else 0) from Y.filter_take _ L k x hx)
          have HGt := Lib.hid (fun h : Y.stays x = true => show R[Y.cntS L k]? = some x by
            have := Y.filter_get Y.stays L k x hx h
            rwa [HF.out.1] at this)
          have HX := Lib.hid (show Y.stays x = !(x == 123 || x == 124 || x == 125) from rfl)
          obtain ⟨q, hq⟩ : ∃ q, Y.cntS L k = q := ⟨_, rfl⟩
          rw [hq] at HSt HGt hcl ⊢
          clear hcc hx hq
          have hii : 0 ≤ (k : Int) ∧ (k : Int) < (n : Int) := by omega
          cases f1 : (x == 123)
          rotate_left
          · have E := Lib.hid (show Y.cntS L (k + 1) = q by rw [HSt.out, HX.out, f1]; rfl)
            clear HSt HGt HX
            go_wp2
            go_roundw
            case rel => exact ⟨k + 1, by omega, by go_num, by rw [E.out], HBr.out⟩
            case measure => simp [intOf]; omega
          cases f2 : (x == 124)
          rotate_left
          · have E := Lib.hid (show Y.cntS L (k + 1) = q by rw [HSt.out, HX.out, f1, f2]; rfl)
            clear HSt HGt HX
            go_wp2
            go_roundw
            case rel => exact ⟨k + 1, by omega, by go_num, by rw [E.out], HBr.out⟩
            case measure => simp [intOf]; omega
          cases f3 : (x == 125)
          rotate_left
          · have E := Lib.hid (show Y.cntS L (k + 1) = q by rw [HSt.out, HX.out, f1, f2, f3]; rfl)
            clear HSt HGt HX
            go_wp2
            go_roundw
            case rel => exact ⟨k + 1, by omega, by go_num, by rw [E.out], HBr.out⟩
            case measure => simp [intOf]; omega
          · have hst : Y.stays x = true := by rw [HX.out, f1, f2, f3]; rfl
            have E := Lib.hid (show Y.cntS L (k + 1) = q + 1 by rw [HSt.out, hst]; rfl)
            have hRq := HGt.out hst
            have hqr : q < r := by have := (List.getElem?_eq_some_iff.1 hRq).1; rw [HN.out.2] at this; exact this
            obtain ⟨b2, rfl, hbl2, hcc2⟩ := HAo'.out (by omega)
            have hc2 := hcc2 q x hRq
            have hdq : decide (r ≤ q) = false := decide_eq_false (by omega)
            have hdq' : decide ((r : Int) ≤ (q : Int)) = false := decide_eq_false (by omega)
            have hij : 0 ≤ (q : Int) ∧ (q : Int) < (r : Int) := by omega
            clear HSt HGt HX hst hRq hcc2
            go_wp2
            go_quiet (fail)
            go_wp2
            go_roundw
            case rel => exact ⟨k + 1, by omega, by go_num, by rw [E.out]; go_num, M.below_drew HBr.out _⟩
            case measure => simp [intOf]; omega
        · obtain rfl : k = n := by omega
          have hqr : Y.cntS L k = r := by
            unfold Y.cntS
            rw [List.take_of_length_le (by rw [HN.out.1]; exact Nat.le_refl _), HF.out.1, HN.out.2]
          have HSy := Lib.hid (HSx.out.next HBr.out)
          rw [hqr]
          have c78 := HSy.out.p.cellK 78 (by decide) .u8 rfl
          have m78 := HSy.out.q.cellK 78 (by decide) .u8 rfl
          rw [H78.out] at m78
          clear hqr hcl HSx HO3 HAo HAo' HBr
          go_wp2_with (first
            | ((with_reducible refine wp_load_midG rfl 22 _ rfl Tryd.underlying22 rfl ?_); refine ⟨b, 1, bdL m, rfl, bd_range HSy.out.q.heap, Tryd.size_bd m, ?_⟩; rw [HBd.out])
            | ((with_reducible refine wp_load_midG rfl 22 _ rfl Tryd.underlying22 rfl ?_); refine ⟨w.heap.size, 1, bdL c, rfl, bd_range HSy.out.p.heap, Tryd.size_bd c, ?_⟩)
            | ((with_reducible refine wpl_eql_bd rfl _ _ _ rfl ?_); refine ⟨c, pos_bd HC.out, rfl, rfl, ?_⟩)
            | (go_at_call 20; refine (awake12_any _ (HT.out _ HSy.out.below)).mono ?_; rintro e w6 ⟨rfl, hb6⟩; have HB6 := Lib.hid (below_next HSy.out.below hb6); clear hb6))
          go_ret
          exact ⟨rfl, HB6.out⟩
    · have hz0 : ((n : Int) == 0) = false := by rw [hz, decide_eq_false h0]
      clear HS0 hz
      go_wp2
      refine region_below (by kernel_rfl) (by kernel_rfl) ?_
      try simp only [Act.put]
      repeat (first
        | (go_big_quiet_want; refine quiet_load_box _ rfl ⟨_, m, rfl, hqq, ?_⟩; simp only [Act.put, List.setIfInBounds_toArray, List.set_cons_succ, List.set_cons_zero]; go_big_quiet_on)
        | (go_big_quiet_want; refine quiet_load_box _ rfl ⟨_, c, rfl, hpp, ?_⟩; simp only [Act.put, List.setIfInBounds_toArray, List.set_cons_succ, List.set_cons_zero]; go_big_quiet_on)
        | (go_big_quiet_want; refine quiet_neq_pos _ _ _ rfl ⟨m, m, HO.out, HO.out, rfl, rfl, ?_⟩; rw [hss, Bool.not_true]; simp only [Act.put, List.setIfInBounds_toArray, List.set_cons_succ, List.set_cons_zero]; go_big_quiet_on)
        | (go_big_quiet_want; refine quiet_neq_pos _ _ _ rfl ⟨m, c, HO.out, HC.out, rfl, rfl, ?_⟩; rw [hsm, Bool.not_true]; simp only [Act.put, List.setIfInBounds_toArray, List.set_cons_succ, List.set_cons_zero]; go_big_quiet_on)
        | go_big_quiet_step (first
          | (go_at_call 21; exact quiet_below (HMM.out _ (tb_grow HTu.out)))))
      refine wpQuiet_nil ?_
      intro u5 hb5
      have HB5 := Lib.hid hb5
      clear hb5
      have HSx := Lib.hid (HS.out.next HB5.out)
      have HO3 := Lib.hid (And.intro (owns_below HOw.out.1 HB5.out) (owns_below HOw.out.2 HB5.out))
      clear HS HOw hpp hqq HTu HB5
      by_cases h1 : n = 1
      · obtain ⟨x, hLx⟩ : ∃ x, L[0]? = some x := ⟨L[0]'(by rw [HN.out.1]; omega), List.getElem?_eq_getElem (by rw [HN.out.1]; omega)⟩
        have hx2 : (x == 2) = false := by
          have := HF.out.2 x (List.mem_of_getElem? hLx)
          simp
          omega
        obtain ⟨ao5, cap5, e5, _, _, hao5⟩ := errs_open HO3.out.1
        rw [HN.out.1] at e5 hao5
        cases e5
        obtain ⟨b3, rfl, hbl3, hcc3⟩ := hao5 (by omega)
        have hc3 := hcc3 0 x hLx
        have hz1 : ((n : Int) == 1) = true := by simp; omega
        have hd0 : 0 < n := by omega
        have hd1 : (0 : Int) < (n : Int) := by omega
        clear hcc3 hao5 hLx h0 h1
        go_wp2
        clear hc3 hx2 hd0 hd1 hz0 hz1
        go_loopw [6, 7] (fun q i wr => ∃ k : Nat, k ≤ n ∧ i = .int .i64 (k : Int) ∧ q = .int .i64 (Y.cntS L k : Int) ∧ Below u5.heap.size u5 wr) (fun _ i _ => n - (intOf i).toNat)
        case atStart => exact ⟨0, Nat.zero_le _, rfl, rfl, Below.refl _ _⟩
        case round =>
          obtain ⟨k, hk, rfl, rfl, hbr⟩ := hrel
          have ho3 := owns_below HO3.out.1 hbr
          have ho4 := owns_below HO3.out.2 hbr
          have HBr := Lib.hid hbr
          obtain ⟨ao3, cap3, e3, _, _, hao⟩ := errs_open ho3
          obtain ⟨ao4, cap4, e4, _, _, hao'⟩ := errs_open ho4
          rw [HN.out.1] at e3 hao
          rw [HN.out.2] at e4 hao'
          cases e3
          cases e4
          have HAo := Lib.hid hao
          have HAo' := Lib.hid hao'
          have hcl : Y.cntS L k ≤ k := Y.filter_take_le _ _ _
          clear ho3 ho4 hbr hao hao'
          by_cases hlt : k < n
          · obtain ⟨x, hx⟩ : ∃ x, L[k]? = some x := ⟨L[k]'(by rw [HN.out.1]; exact hlt), List.getElem?_eq_getElem (by rw [HN.out.1]; exact hlt)⟩
            obtain ⟨b1, hb1, hbl, hcc⟩ := HAo.out (by omega)
            cases hb1
            have hc1 := hcc k x hx
            have HSt := Lib.hid (show Y.cntS L (k + 1) = Y.cntS L k + (if Y.stays x then 1 else 0) from Y.filter_take _ L k x hx)
            have HGt := Lib.hid (fun h : Y.stays x = true => show R[Y.cntS L k]? = some x by
              have := Y.filter_get Y.stays L k x hx h
              rwa [HF.out.1] at this)
            have HX := Lib.hid (show Y.stays x = !(x == 123 || x == 124 || x == 125) from rfl)
            obtain ⟨q, hq⟩ : ∃ q, Y.cntS L k = q := ⟨_, rfl⟩
            rw [hq] at HSt HGt hcl ⊢
            clear hcc hx hq
            have hii : 0 ≤ (k : Int) ∧ (k : Int) < (n : Int) := by omega
            cases f1 : (x == 123)
            rotate_left
            · have E := Lib.hid (show Y.cntS L (k + 1) = q by rw [HSt.out, HX.out, f1]; rfl)
              clear HSt HGt HX
              go_wp2
              go_roundw
              case rel => exact ⟨k + 1, by omega, by go_num, by rw [E.out], HBr.out⟩
              case measure => simp [intOf]; omega
            cases f2 : (x == 124)
            rotate_left
            · have E := Lib.hid (show Y.cntS L (k + 1) = q by rw [HSt.out, HX.out, f1, f2]; rfl)
              clear HSt HGt HX
              go_wp2
              go_roundw
              case rel => exact ⟨k + 1, by omega, by go_num, by rw [E.out], HBr.out⟩
              case measure => simp [intOf]; omega
            cases f3 : (x == 125)
            rotate_left
            · have E := Lib.hid (show Y.cntS L (k + 1) = q by rw [HSt.out, HX.out, f1, f2, f3]; rfl)
              clear HSt HGt HX
              go_wp2
              go_roundw
              case rel => exact ⟨k + 1, by omega, by go_num, by rw [E.out], HBr.out⟩
              case measure => simp [intOf]; omega
            · have hst : Y.stays x = true := by rw [HX.out, f1, f2, f3]; rfl
              have E := Lib.hid (show Y.cntS L (k + 1) = q + 1 by rw [HSt.out, hst]; rfl)
              have hRq := HGt.out hst
              have hqr : q < r := by have := (List.getElem?_eq_some_iff.1 hRq).1; rw [HN.out.2] at this; exact this
              obtain ⟨b2, rfl, hbl2, hcc2⟩ := HAo'.out (by omega)
              have hc2 := hcc2 q x hRq
              have hdq : decide (r ≤ q) = false := decide_eq_false (by omega)
              have hdq' : decide ((r : Int) ≤ (q : Int)) = false := decide_eq_false (by omega)
              have hij : 0 ≤ (q : Int) ∧ (q : Int) < (r : Int) := by omega
              clear HSt HGt HX hst hRq hcc2
              go_wp2
              go_quiet (fail)
              go_wp2
              go_roundw
              case rel => exact ⟨k + 1, by omega, by go_num, by rw [E.out]; go_num, M.below_drew HBr.out _⟩
              case measure => simp [intOf]; omega
          · obtain rfl : k = n := by omega
            have hqr : Y.cntS L k = r := by
              unfold Y.cntS
              rw [List.take_of_length_le (by rw [HN.out.1]; exact Nat.le_refl _), HF.out.1, HN.out.2]
            have HSy := Lib.hid (HSx.out.next HBr.out)
            rw [hqr]
            have c78 := HSy.out.p.cellK 78 (by decide) .u8 rfl
            have m78 := HSy.out.q.cellK 78 (by decide) .u8 rfl
            rw [H78.out] at m78
            clear hqr hcl HSx HO3 HAo HAo' HBr
            go_wp2_with (first
              | ((with_reducible refine wp_load_midG rfl 22 _ rfl Tryd.underlying22 rfl ?_); refine ⟨b, 1, bdL m, rfl, bd_range HSy.out.q.heap, Tryd.size_bd m, ?_⟩; rw [HBd.out])
              | ((with_reducible refine wp_load_midG rfl 22 _ rfl Tryd.underlying22 rfl ?_); refine ⟨w.heap.size, 1, bdL c, rfl, bd_range HSy.out.p.heap, Tryd.size_bd c, ?_⟩)
              | ((with_reducible refine wpl_eql_bd rfl _ _ _ rfl ?_); refine ⟨c, pos_bd HC.out, rfl, rfl, ?_⟩)
              | (go_at_call 20; refine (awake12_any _ (HT.out _ HSy.out.below)).mono ?_; rintro e w6 ⟨rfl, hb6⟩; have HB6 := Lib.hid (below_next HSy.out.below hb6); clear hb6))
            go_ret
            exact ⟨rfl, HB6.out⟩
      · have hz1 : ((n : Int) == 1) = false := by simp; omega
        clear h0 h1
        go_wp2
        clear hz0 hz1
        go_loopw [6, 7] (fun q i wr => ∃ k : Nat, k ≤ n ∧ i = .int .i64 (k : Int) ∧ q = .int .i64 (Y.cntS L k : Int) ∧ Below u5.heap.size u5 wr) (fun _ i _ => n - (intOf i).toNat)
        case atStart => exact ⟨0, Nat.zero_le _, rfl, rfl, Below.refl _ _⟩
        case round =>
          obtain ⟨k, hk, rfl, rfl, hbr⟩ := hrel
          have ho3 := owns_below HO3.out.1 hbr
          have ho4 := owns_below HO3.out.2 hbr
          have HBr := Lib.hid hbr
          obtain ⟨ao3, cap3, e3, _, _, hao⟩ := errs_open ho3
          obtain ⟨ao4, cap4, e4, _, _, hao'⟩ := errs_open ho4
          rw [HN.out.1] at e3 hao
          rw [HN.out.2] at e4 hao'
          cases e3
          cases e4
          have HAo := Lib.hid hao
          have HAo' := Lib.hid hao'
          have hcl : Y.cntS L k ≤ k := Y.filter_take_le _ _ _
          clear ho3 ho4 hbr hao hao'
          by_cases hlt : k < n
          · obtain ⟨x, hx⟩ : ∃ x, L[k]? = some x := ⟨L[k]'(by rw [HN.out.1]; exact hlt), List.getElem?_eq_getElem (by rw [HN.out.1]; exact hlt)⟩
            obtain ⟨b1, hb1, hbl, hcc⟩ := HAo.out (by omega)
            cases hb1
            have hc1 := hcc k x hx
            have HSt := Lib.hid (show Y.cntS L (k + 1) = Y.cntS L k + (if Y.stays x then 1 else 0) from Y.filter_take _ L k x hx)
            have HGt := Lib.hid (fun h : Y.stays x = true => show R[Y.cntS L k]? = some x by
              have := Y.filter_get Y.stays L k x hx h
              rwa [HF.out.1] at this)
            have HX := Lib.hid (show Y.stays x = !(x == 123 || x == 124 || x == 125) from rfl)
            obtain ⟨q, hq⟩ : ∃ q, Y.cntS L k = q := ⟨_, rfl⟩
            rw [hq] at HSt HGt hcl ⊢
            clear hcc hx hq
            have hii : 0 ≤ (k : Int) ∧ (k : Int) < (n : Int) := by omega
            cases f1 : (x == 123)
            rotate_left
            · have E := Lib.hid (show Y.cntS L (k + 1) = q by rw [HSt.out, HX.out, f1]; rfl)
              clear HSt HGt HX
              go_wp2
              go_roundw
              case rel => exact ⟨k + 1, by omega, by go_num, by rw [E.out], HBr.out⟩
              case measure => simp [intOf]; omega
            cases f2 : (x == 124)
            rotate_left
            · have E := Lib.hid (show Y.cntS L (k + 1) = q by rw [HSt.out, HX.out, f1, f2]; rfl)
              clear HSt HGt HX
              go_wp2
              go_roundw
              case rel => exact ⟨k + 1, by omega, by go_num, by rw [E.out], HBr.out⟩
              case measure => simp [intOf]; omega
            cases f3 : (x == 125)
            rotate_left
            · have E := Lib.hid (show Y.cntS L (k + 1) = q by rw [HSt.out, HX.out, f1, f2, f3]; rfl)
              clear HSt HGt HX
              go_wp2
              go_roundw
              case rel => exact ⟨k + 1, by omega, by go_num, by rw [E.out], HBr.out⟩
              case measure => simp [intOf]; omega
            · have hst : Y.stays x = true := by rw [HX.out, f1, f2, f3]; rfl
              have E := Lib.hid (show Y.cntS L (k + 1) = q + 1 by rw [HSt.out, hst]; rfl)
              have hRq := HGt.out hst
              have hqr : q < r := by have := (List.getElem?_eq_some_iff.1 hRq).1; rw [HN.out.2] at this; exact this
              obtain ⟨b2, rfl, hbl2, hcc2⟩ := HAo'.out (by omega)
              have hc2 := hcc2 q x hRq
              have hdq : decide (r ≤ q) = false := decide_eq_false (by omega)
              have hdq' : decide ((r : Int) ≤ (q : Int)) = false := decide_eq_false (by omega)
              have hij : 0 ≤ (q : Int) ∧ (q : Int) < (r : Int) := by omega
              clear HSt HGt HX hst hRq hcc2
              go_wp2
              go_quiet (fail)
              go_wp2
              go_roundw
              case rel => exact ⟨k + 1, by omega, by go_num, by rw [E.out]; go_num, M.below_drew HBr.out _⟩
              case measure => simp [intOf]; omega
          · obtain rfl : k = n := by omega
            have hqr : Y.cntS L k = r := by
              unfold Y.cntS
              rw [List.take_of_length_le (by rw [HN.out.1]; exact Nat.le_refl _), HF.out.1, HN.out.2]
            have HSy := Lib.hid (HSx.out.next HBr.out)
            rw [hqr]
            have c78 := HSy.out.p.cellK 78 (by decide) .u8 rfl
            have m78 := HSy.out.q.cellK 78 (by decide) .u8 rfl
            rw [H78.out] at m78
            clear hqr hcl HSx HO3 HAo HAo' HBr
            go_wp2_with (first
              | ((with_reducible refine wp_load_midG rfl 22 _ rfl Tryd.underlying22 rfl ?_); refine ⟨b, 1, bdL m, rfl, bd_range HSy.out.q.heap, Tryd.size_bd m, ?_⟩; rw [HBd.out])
              | ((with_reducible refine wp_load_midG rfl 22 _ rfl Tryd.underlying22 rfl ?_); refine ⟨w.heap.size, 1, bdL c, rfl, bd_range HSy.out.p.heap, Tryd.size_bd c, ?_⟩)
              | ((with_reducible refine wpl_eql_bd rfl _ _ _ rfl ?_); refine ⟨c, pos_bd HC.out, rfl, rfl, ?_⟩)
              | (go_at_call 20; refine (awake12_any _ (HT.out _ HSy.out.below)).mono ?_; rintro e w6 ⟨rfl, hb6⟩; have HB6 := Lib.hid (below_next HSy.out.below hb6); clear hb6))
            go_ret
            exact ⟨rfl, HB6.out⟩
end Go.Proofs.YtlphjjekamhnlaaDoor
