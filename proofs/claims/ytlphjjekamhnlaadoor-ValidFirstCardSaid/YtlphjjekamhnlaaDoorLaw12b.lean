/- The laws of layer 12: ValidMends, ValidAll. -/
import Derived.Test.YtlphjjekamhnlaaDoorDvF
import Derived.Test.YtlphjjekamhnlaaDoorLaw12a
namespace Go.Proofs.YtlphjjekamhnlaaDoor
open Go.RowKit Go.Sort
attribute [local go_sem] Oper.semAt_some

theorem posOk_upd12 {c : Nat → Int} (hc : PosOk c) (i : Nat) (v : Int) (hv : (Lit.int (pk i) v).wf = true) : PosOk (upd c i v) := fun j hj => by
  unfold upd
  split
  · rename_i h; rw [h]; exact hv
  · exact hc j hj
theorem lit_i64 (n : Int) (h0 : -9223372036854775808 ≤ n) (h1 : n ≤ 9223372036854775807) : (Lit.int .i64 n).wf = true := by
  simp [Lit.wf, IntKind.min, IntKind.max, IntKind.signed, IntKind.bits]
  omega
theorem mend1_ok {c d : Nat → Int} (hd : PosOk d) (t k : Nat) (ht : t < 2) (hk : k < 2) : PosOk (Y.mend1 c d t k) := by
  unfold Y.mend1
  split
  · exact hd
  · refine posOk_upd12 hd _ _ ?_
    rcases (show (t = 0 ∧ k = 0) ∨ (t = 0 ∧ k = 1) ∨ (t = 1 ∧ k = 0) ∨ (t = 1 ∧ k = 1) by omega) with ⟨rfl, rfl⟩ | ⟨rfl, rfl⟩ | ⟨rfl, rfl⟩ | ⟨rfl, rfl⟩ <;> decide +kernel
theorem mend_ok {c : Nat → Int} (hc : PosOk c) : PosOk (Y.mend c) := by
  unfold Y.mend
  split
  · have h1 := Y.near_bd (c 86) 0 10000 (by decide)
    have h2 := Y.near_bd (c 87) 1 10000 (by decide)
    have hR : PosOk (Y.mendR c) := mend1_ok (mend1_ok (mend1_ok (mend1_ok hc 0 0 (by omega) (by omega)) 0 1 (by omega) (by omega)) 1 0 (by omega) (by omega)) 1 1 (by omega) (by omega)
    have hP : PosOk (Y.mendP c) := by
      unfold Y.mendP
      split
      · exact hR
      · exact posOk_upd12 hR _ _ (by decide +kernel)
    exact posOk_upd12 (posOk_upd12 hP 86 _ (lit_i64 _ (by omega) (by omega))) 87 _ (lit_i64 _ (by omega) (by omega))
  · exact hc
/-- Two positions compared in a region that draws. -/
theorem quiet_eql_pos {S : World → Prop} {K : Act → Prop} {a : Act} {o : Oper} (x y : Operand) (t : TypeId) (ho : o.op = .binOp .eql 31 x y t)
    (h : ∃ c d : Nat → Int, PosOk c ∧ PosOk d ∧ a.eval x = .agg (posC c) ∧ a.eval y = .agg (posC d) ∧ K (a.put o.dst (.bool (samePos c d)))) : o.quiet Tryd.prog a S K := by
  obtain ⟨c, d, hc, hd, hx, hy, hk⟩ := h
  refine ⟨_, fun w' _ => ?_, hk⟩
  unfold Oper.quietAt
  rw [exec_eql_pos a.eval o x y t c d w' hc hd ho hx hy]
  exact ⟨rfl, rfl⟩
theorem quiet_neq_pos {S : World → Prop} {K : Act → Prop} {a : Act} {o : Oper} (x y : Operand) (t : TypeId) (ho : o.op = .binOp .neq 31 x y t)
    (h : ∃ c d : Nat → Int, PosOk c ∧ PosOk d ∧ a.eval x = .agg (posC c) ∧ a.eval y = .agg (posC d) ∧ K (a.put o.dst (.bool (!samePos c d)))) : o.quiet Tryd.prog a S K := by
  obtain ⟨c, d, hc, hd, hx, hy, hk⟩ := h
  refine ⟨_, fun w' _ => ?_, hk⟩
  unfold Oper.quietAt
  rw [exec_neq_pos a.eval o x y t c d w' hc hd ho hx hy]
  exact ⟨rfl, rfl⟩

set_option maxRecDepth 100000 in
set_option maxHeartbeats 4000000 in
theorem validMends_walk (c : Nat → Int) (w : World) (hc : PosOk c) (hT : Tb w) :
    Calls Tryd.prog 9 #[.agg (posC c)] w fun e w' => e = .returned (.bool true) ∧ Below w.heap.size w w' := by
  have hp := PosAt.new w c
  have hb0 : Below w.heap.size w (w.alloc (.cells (posC c) 31)) := (Below.refl _ _).alloc (Nat.le_refl _) _
  have HT := Lib.hid (fun W (hb : Below w.heap.size w W) => tb_below hT hb)
  have HM : Hid (∀ W, Tb W → Calls Tryd.prog 21 #[.agg (posC c)] W fun e w' => e = .returned (.agg (posC (Y.mend c))) ∧ Below W.heap.size W w') := Lib.hid (fun W h => vmend_any c W hc h)
  have HD : Hid (∀ W, Calls Tryd.prog 22 #[.agg (posC c)] W fun e w' => e = .returned (.agg (posC (Y.mend c))) ∧ Below W.heap.size W w') := Lib.hid (fun W => d12mend_any c W hc)
  have HO := Lib.hid (mend_ok hc)
  have hss := samePos_self (Y.mend c)
  obtain ⟨m, hm⟩ : ∃ m, Y.mend c = m := ⟨_, rfl⟩
  rw [hm] at HM HD HO hss
  clear hT hc hm
  go_enter Tryd.func9, Tryd.ntmps9
  go_wp2
  obtain ⟨W0, hW0⟩ : ∃ W0, w.alloc (.cells (posC c) 31) = W0 := ⟨_, rfl⟩
  rw [hW0] at hp hb0
  have HP := Lib.hid hp
  have HT0 := Lib.hid (HT.out _ hb0)
  have HB0 := Lib.hid hb0
  try rw [hW0]
  clear hp hb0 hW0
  refine region_below (by kernel_rfl) (by kernel_rfl) ?_
  try simp only [Act.put]
  repeat (first
    | (go_big_quiet_want; refine quiet_load_box _ rfl ⟨_, c, rfl, HP.out, ?_⟩; simp only [Act.put, List.setIfInBounds_toArray, List.set_cons_succ, List.set_cons_zero]; go_big_quiet_on)
    | (go_big_quiet_want; refine quiet_eql_pos _ _ _ rfl ⟨m, m, HO.out, HO.out, rfl, rfl, ?_⟩; rw [hss]; simp only [Act.put, List.setIfInBounds_toArray, List.set_cons_succ, List.set_cons_zero]; go_big_quiet_on)
    | go_big_quiet_step (first
      | (go_at_call 21; exact quiet_below (HM.out _ (tb_grow HT0.out)))
      | (go_at_call 22; exact quiet_below (HD.out _))
      | (go_at_call 20; exact quiet_below (awake12_any _ (tb_grow HT0.out)))))
  refine wpQuiet_nil ?_
  intro w3 hb3
  have hbr := below_next HB0.out hb3
  clear hb3
  go_wp2
  go_ret
  exact ⟨rfl, hbr⟩

/-- What a row of errors reads, opened. -/
theorem errs_open {w : World} {base : Nat} {v : Value} {L : List Int} (h : w.ownsRow base 42 1 v L.length (Y.cells L)) :
    ∃ ao cap, v = .slice ao L.length cap ∧ L.length ≤ cap ∧ cap ≤ maxLen ∧ (0 < L.length → ∃ b, ao = some ⟨b, 0, none⟩ ∧ b < w.heap.size ∧ ∀ j x, L[j]? = some x → w.cell? ⟨b, j, none⟩ = some (.int .i64 x)) := by
  obtain ⟨ao, cap, rfl, h1, h2, h3⟩ := row_open1 h
  refine ⟨ao, cap, rfl, h1, h2, fun h => ?_⟩
  obtain ⟨b, e, _, hb, hc⟩ := h3 h
  exact ⟨b, e, hb, fun j x hx => hc j _ (Y.cells_at L j x hx)⟩
theorem all_len (c : Nat → Int) : (Y.all c).length ≤ 8 := by
  cases h : Y.plain c
  · rw [Y.all_arg c h]; decide
  · rw [Y.all_pre c h]; exact Y.pre_len c 8

set_option maxRecDepth 100000 in
set_option maxHeartbeats 8000000 in
theorem validAll_walk (c : Nat → Int) (w : World) (hc : PosOk c) (hT : Tb w) :
    Calls Tryd.prog 7 #[.agg (posC c)] w fun e w' => e = .returned (.bool true) ∧ Below w.heap.size w w' := by
  have hp := PosAt.new w c
  have hb0 : Below w.heap.size w (w.alloc (.cells (posC c) 31)) := (Below.refl _ _).alloc (Nat.le_refl _) _
  have HT := Lib.hid (fun W (hb : Below w.heap.size w W) => tb_below hT hb)
  have HA : Hid (∀ W, Tb W → Calls Tryd.prog 17 #[.agg (posC c)] W (Y.End (Y.all c) W)) := Lib.hid (fun W h => vall_any c W hc h)
  have HD : Hid (∀ W, Calls Tryd.prog 18 #[.agg (posC c)] W (Y.End (Y.all c) W)) := Lib.hid (fun W => d12all_any c W hc)
  have HC : Hid (∀ W, Tb W → Calls Tryd.prog 19 #[.agg (posC c)] W fun e w' => e = .returned (.int .i64 ((Y.all c).headD 0)) ∧ Below W.heap.size W w') := Lib.hid (fun W h => vfirst_any c W hc h)
  have hL8 := all_len c
  obtain ⟨L, hL⟩ : ∃ L, Y.all c = L := ⟨_, rfl⟩
  rw [hL] at HA HD HC hL8
  have hu := Tryd.underlying31
  have hinfo : (Tryd.prog.info? 31).map (·.size) = some (posL c).length := by rw [Tryd.infoPos]; simp [posL]
  clear hT hc hL
  go_enter Tryd.func7, Tryd.ntmps7
  go_wp2
  obtain ⟨W0, hW0⟩ : ∃ W0, w.alloc (.cells (posC c) 31) = W0 := ⟨_, rfl⟩
  rw [hW0] at hp hb0
  try rw [hW0]
  have hSd : PosAt W0.drew w.heap.size c ∧ Below w.heap.size w W0.drew := ⟨⟨hp.heap⟩, M.below_drew hb0 1⟩
  refine wp_region_held (S := fun w' => PosAt w' w.heap.size c ∧ Below w.heap.size w w') (by kernel_rfl) ?_
  change wpAnyH _ _ _ _ _ _ _ _ W0.drew
  clear hp hb0 hW0
  generalize W0.drew = W1 at hSd ⊢
  refine takeD 0 (some 7) (.agg (posC c)) (by kernel_rfl) (by kernel_rfl) (by kernel_rfl) (by kernel_rfl) (by kernel_rfl) (fun _ _ _ h => h) (yieldsIf_load_mid (by kernel_rfl) 31 (.tmp 1) (by kernel_rfl) w.heap.size 0 (by kernel_rfl) (posL c) _ (fun _ h => pos_range h.1.heap) hu rfl hinfo) hSd ?_
  simp only [Act.put, List.setIfInBounds_toArray, List.set_cons_succ, List.set_cons_zero]
  refine takeD 2 (some 9) (.agg (posC c)) (by kernel_rfl) (by kernel_rfl) (by kernel_rfl) (by kernel_rfl) (by kernel_rfl) (fun _ _ _ h => h) (yieldsIf_load_mid (by kernel_rfl) 31 (.tmp 1) (by kernel_rfl) w.heap.size 0 (by kernel_rfl) (posL c) _ (fun _ h => pos_range h.1.heap) hu rfl hinfo) hSd ?_
  simp only [Act.put, List.setIfInBounds_toArray, List.set_cons_succ, List.set_cons_zero]
  refine wpAnyH_all (rs := [1]) (by kernel_rfl) (by simp) (fun i hi => ?_)
  obtain rfl : i = 1 := by simpa using hi
  clear hi
  refine wpOp_at rfl rfl ?_
  unfold Oper.wp
  go_simp
  refine (HA.out _ (HT.out _ hSd.2)).mono ?_
  rintro e u3 ⟨v3, rfl, hown3, hb⟩
  have hS3 : PosAt u3 w.heap.size c ∧ Below w.heap.size w u3 := ⟨hSd.1.below hb, below_next hSd.2 hb⟩
  clear hb
  refine ⟨hS3, ?_⟩
  refine wpAnyH_all (rs := [3]) (by kernel_rfl) (by simp) (fun i hi => ?_)
  obtain rfl : i = 3 := by simpa using hi
  clear hi
  refine wpOp_at rfl rfl ?_
  unfold Oper.wp
  go_simp
  refine (HD.out _).mono ?_
  rintro e u4 ⟨v4, rfl, hown4, hb⟩
  have hS4 : PosAt u4 w.heap.size c ∧ Below w.heap.size w u4 := ⟨hS3.1.below hb, below_next hS3.2 hb⟩
  replace hown3 := owns_below hown3 hb
  clear hb
  refine ⟨hS4, ?_⟩
  obtain ⟨ao, cap, rfl, hcap, hcm, hao⟩ := errs_open hown3
  obtain ⟨ao', cap', rfl, hcap', hcm', hao'⟩ := errs_open hown4
  refine takeD 4 (some 3) (.slice ao L.length cap) (by kernel_rfl) (by kernel_rfl) (by kernel_rfl) (by kernel_rfl) (by kernel_rfl) (fun _ _ _ h => h) (yi_pure (v0 := .slice ao L.length cap) (by kernel_rfl) (fun _ => by kernel_rfl) rfl) hS4 ?_
  simp only [Act.put, List.setIfInBounds_toArray, List.set_cons_succ, List.set_cons_zero]
  refine takeD 5 (some 4) (.slice ao' L.length cap') (by kernel_rfl) (by kernel_rfl) (by kernel_rfl) (by kernel_rfl) (by kernel_rfl) (fun _ _ _ h => h) (yi_pure (v0 := .slice ao' L.length cap') (by kernel_rfl) (fun _ => by kernel_rfl) rfl) hS4 ?_
  simp only [Act.put, List.setIfInBounds_toArray, List.set_cons_succ, List.set_cons_zero]
  refine wpAnyH_done (by kernel_rfl) ?_ _
  have HS := Lib.hid hS4
  have HO := Lib.hid (And.intro hown3 hown4)
  clear hS3 hS4 hSd hown3 hown4 hao hao' hu hinfo HA HD
  unfold maxLen at hcm hcm'
  obtain ⟨n, hn⟩ : ∃ n, L.length = n := ⟨_, rfl⟩
  have HN := Lib.hid hn
  rw [hn] at hL8 hcap hcap' ⊢
  clear hn
  go_wp2
  go_loopw [5] (fun i wr => ∃ k : Nat, k ≤ n ∧ i = .int .i64 (k : Int) ∧ Below u4.heap.size u4 wr) (fun i _ => n - (intOf i).toNat)
  case atStart => exact ⟨0, Nat.zero_le _, rfl, Below.refl _ _⟩
  case round =>
    obtain ⟨k, hk, rfl, hbr⟩ := hrel
    have ho3 := owns_below HO.out.1 hbr
    have ho4 := owns_below HO.out.2 hbr
    have HBr := Lib.hid hbr
    obtain ⟨ao3, cap3, e3, _, _, hao⟩ := errs_open ho3
    obtain ⟨ao4, cap4, e4, _, _, hao'⟩ := errs_open ho4
    rw [HN.out] at e3 e4 hao hao'
    cases e3
    cases e4
    have HAo := Lib.hid hao
    have HAo' := Lib.hid hao'
    clear ho3 ho4 hbr hao hao'
    by_cases hlt : k < n
    · obtain ⟨x, hx⟩ : ∃ x, L[k]? = some x := ⟨L[k]'(by rw [HN.out]; exact hlt), List.getElem?_eq_getElem (by rw [HN.out]; exact hlt)⟩
      obtain ⟨b, rfl, hbl, hcc⟩ := HAo.out (by omega)
      obtain ⟨b', rfl, hbl', hcc'⟩ := HAo'.out (by omega)
      have hc1 := hcc k x hx
      have hc2 := hcc' k x hx
      clear hcc hcc' hx
      have hii : 0 ≤ (k : Int) ∧ (k : Int) < (n : Int) := by omega
      go_wp2
      go_quiet (fail)
      go_wp2
      go_roundw
      case rel => exact ⟨k + 1, by omega, by go_num, M.below_drew HBr.out _⟩
      case measure => simp [intOf]; omega
    · obtain rfl : k = n := by omega
      have hSw : PosAt wr w.heap.size c ∧ Below w.heap.size w wr := ⟨HS.out.1.below HBr.out, HS.out.2.trans (HBr.out.mono HS.out.2.size)⟩
      have HSw := Lib.hid hSw
      clear hSw HS
      cases L with
      | nil =>
        have hk0 : k = 0 := HN.out.symm
        subst hk0
        go_wp2_with (first
          | ((with_reducible refine wp_load_box_g rfl _ rfl ?_); refine ⟨_, _, rfl, HSw.out.1, ?_⟩)
          | (go_at_call 19; refine (HC.out _ (HT.out _ HSw.out.2)).mono ?_; rintro e w5 ⟨rfl, hb5⟩; have HB5 := Lib.hid (below_next HSw.out.2 hb5); clear hb5)
          | (go_at_call 20; refine (awake12_any _ (HT.out _ HB5.out)).mono ?_; rintro e w6 ⟨rfl, hb6⟩; have HB6 := Lib.hid (below_next HB5.out hb6); clear hb6))
        go_ret
        exact ⟨rfl, HB6.out⟩
      | cons y t =>
        have hkt : k = t.length + 1 := HN.out.symm
        have hd0 : 0 < k := by omega
        obtain ⟨b', rfl, hbl', hcc'⟩ := HAo'.out hd0
        have hc2 := hcc' 0 y rfl
        have hd1 : decide ((0 : Int) < (k : Int)) = true := decide_eq_true (by omega)
        have HC2 : Hid (∀ W, Tb W → Calls Tryd.prog 19 #[.agg (posC c)] W fun e w' => e = .returned (.int .i64 y) ∧ Below W.heap.size W w') := Lib.hid HC.out
        clear hcc' hkt HC hlt
        go_wp2_with (first
          | ((with_reducible refine wp_load_box_g rfl _ rfl ?_); refine ⟨_, _, rfl, HSw.out.1, ?_⟩)
          | (go_at_call 19; refine (HC2.out _ (HT.out _ HSw.out.2)).mono ?_; rintro e w5 ⟨rfl, hb5⟩; have HB5 := Lib.hid (below_next HSw.out.2 hb5); clear hb5)
          | (go_at_call 20; refine (awake12_any _ (HT.out _ HB5.out)).mono ?_; rintro e w6 ⟨rfl, hb6⟩; have HB6 := Lib.hid (below_next HB5.out hb6); clear hb6))
        go_ret
        exact ⟨rfl, HB6.out⟩
end Go.Proofs.YtlphjjekamhnlaaDoor
