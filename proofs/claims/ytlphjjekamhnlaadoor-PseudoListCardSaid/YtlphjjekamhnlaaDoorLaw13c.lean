/- The law PseudoList. -/
import Derived.Test.YtlphjjekamhnlaaDoorLaw13b
import Derived.Test.YtlphjjekamhnlaaDoorLaw13l
namespace Go.Proofs.YtlphjjekamhnlaaDoor
open Go.RowKit Go.Sort

theorem plist_row (c : Nat → Int) (l : List Mv) (w : World) (hc : PosOk c) (hT : Tb w) (h : D.lst c = l) :
    Calls Tryd.prog 12 #[.agg (posC c)] w fun e w' => ∃ v, e = .returned v ∧ w'.ownsRow w.heap.size 36 5 v l.length (M.cells l) ∧ Below w.heap.size w w' := by
  rw [← h]; exact plist_any c w hc hT
theorem d13list_row (c : Nat → Int) (l : List Mv) (w : World) (hc : PosOk c) (h : D.lst c = l) :
    Calls Tryd.prog 14 #[.agg (posC c)] w fun e w' => ∃ v, e = .returned v ∧ w'.ownsRow w.heap.size 36 5 v l.length (M.cells l) ∧ Below w.heap.size w w' := by
  rw [← h]; exact d13list_any c w hc
theorem put_setCellsC (g : Nat) : ∀ (vs : List Value) (o : Nat) (w : World), Put g w (w.setCells g o vs)
  | [], _, w => Put.refl g w
  | v :: r, o, w => (put_setCell w g o v).trans (put_setCellsC g r (o + 1) _)
theorem row_setCells (g : Nat) (T : TypeId) : ∀ (vs : List Value) (o : Nat) (w : World) (cs : Array Value), RowAt w g T cs → ∃ cs' : Array Value, cs'.size = cs.size ∧ RowAt (w.setCells g o vs) g T cs'
  | [], _, _, cs, h => ⟨cs, rfl, h⟩
  | v :: r, o, w, cs, h => by
    obtain ⟨cs', h1, h2⟩ := row_setCells g T r (o + 1) _ _ (h.setCell o v)
    exact ⟨cs', by rw [h1]; simp, h2⟩
theorem wpl_zero_at {ops : Array Oper} {rest : List Oper} {o : Oper} {a : Act} {w : World} {Q : Exit → Act → World → Prop} (hgd : o.guard = none) (x y : Operand) (ho : o.op = .store 36 x y)
    (h : ∃ (g k : Nat) (cs : Array Value) (T : TypeId), a.eval x = .pointer (some ⟨g, k, none⟩) ∧ (∃ zs : Array Value, a.eval y = .agg zs ∧ zs.size = 5 ∧ zs.all (·.oneCell') = true) ∧ RowAt w g T cs ∧ k + 5 ≤ cs.size ∧
      ∀ (W' : World) (cs' : Array Value), Put g w W' → cs'.size = cs.size → RowAt W' g T cs' → wpList Tryd.prog ops Q rest (a.put o.dst undef) W') : wpList Tryd.prog ops Q (o :: rest) a w := by
  obtain ⟨g, k, cs, T, hx, ⟨zs, hy, hz, h1⟩, hR, hk, h⟩ := h
  obtain ⟨cs', e1, e2⟩ := row_setCells g T zs.toList k w cs hR
  refine wpList_store_mid hgd 36 x y ho g k zs hx hy (fun j hj => ⟨?_, hR.frozen _⟩) (by rw [hz]; exact Tryd.size_Mv) h1 (h _ cs' (put_setCellsC g _ _ _) e1 e2)
  rw [hR.cell, Array.getElem?_eq_getElem (by omega)]
  rfl

set_option maxRecDepth 100000 in
set_option maxHeartbeats 2000000 in
theorem pseudoList_walk (c : Nat → Int) (w : World) (hc : PosOk c) (hT : Tb w) :
    Calls Tryd.prog 3 #[.agg (posC c)] w fun e w' => e = .returned (.bool true) ∧ Below w.heap.size w w' := by
  obtain ⟨L, hL⟩ : ∃ L, D.lst c = L := ⟨_, rfl⟩
  have hL2 : L.length ≤ 30000 := by rw [← hL]; exact lst_len c
  have hLL : (L == L) = true := by simp
  have hb0 : Below w.heap.size w (w.alloc (.cells (posC c) 31)) := (Below.refl _ _).alloc (Nat.le_refl _) _
  have hp := PosAt.new w c
  have HT := Lib.hid (fun W (hb : Below w.heap.size w W) => tb_below hT hb)
  have HL := Lib.hid (fun W (hT : Tb W) => plist_row c L W hc hT hL)
  have HD := Lib.hid (fun W => d13list_row c L W hc hL)
  clear hT hL hc
  have hu := Tryd.underlying31
  have hinfo : (Tryd.prog.info? 31).map (·.size) = some (posL c).length := by rw [Tryd.infoPos]; simp [posL]
  go_enter Tryd.func3, Tryd.ntmps3
  go_wp2_with (first
    | ((with_reducible refine wp_load_box rfl _ rfl ?_); refine ⟨_, _, rfl, hp, ?_⟩)
    | fail)
  refine (HL.out _ (HT.out _ hb0)).mono ?_
  rintro e u ⟨v, rfl, hown, hb⟩
  replace hp := hp.below hb
  replace hb0 := below_next hb0 hb
  have hbs := hp.lt
  clear hb
  go_wp2_with (first
    | ((with_reducible refine wp_load_box rfl _ rfl ?_); refine ⟨_, _, rfl, hp, ?_⟩)
    | fail)
  refine (HD.out _).mono ?_
  rintro e u1 ⟨v1, rfl, hown1, hb⟩
  replace hp := hp.below hb
  replace hown := owns_below hown hb
  replace hb0 := below_next hb0 hb
  clear hb
  go_wp2_with fail
  refine (same13_any L L v v1 _ _ _ _ hown hown1).mono ?_
  rw [hLL]
  rintro e u2 ⟨rfl, hb⟩
  replace hp := hp.below hb
  replace hown := owns_below hown hb
  replace hb0 := below_next hb0 hb
  clear hb hown1
  rcases hown.2 with ⟨hv, hl0⟩ | ⟨b, cap, cur, hv, hbb, hg, hnc, hcm, hcs, htake⟩
  · subst hv
    rw [hl0] at hL2
    have HR := Lib.hid (And.intro hp hb0)
    clear hown hp hb0
    go_wp2
    go_loopw [5] (fun i wr => i = .int .i64 0 ∧ PosAt wr w.heap.size c ∧ Below w.heap.size w wr) (fun _ _ => 0)
    case atStart => exact ⟨rfl, HR.out.1, HR.out.2⟩
    case round =>
      obtain ⟨rfl, hp, hbr⟩ := hrel
      go_wp2_with fail
      refine wp_region_held (S := fun w' => PosAt w' w.heap.size c ∧ Below w.heap.size w w') (by kernel_rfl) ?_
      have hSd : PosAt wr.drew w.heap.size c ∧ Below w.heap.size w wr.drew := ⟨⟨hp.heap⟩, M.below_drew hbr 1⟩
      refine takeD 0 (some 22) (.bool true) (by kernel_rfl) (by kernel_rfl) (by kernel_rfl) (by kernel_rfl) (by kernel_rfl) (fun _ _ _ h => h) (yi_pure (v0 := .bool true) (by kernel_rfl) (fun _ => by kernel_rfl) rfl) hSd ?_
      simp only [Act.put, List.setIfInBounds_toArray, List.set_cons_succ, List.set_cons_zero]
      refine takeD 1 (some 23) (.bool true) (by kernel_rfl) (by kernel_rfl) (by kernel_rfl) (by kernel_rfl) (by kernel_rfl) (fun _ _ _ h => h) (yi_pure (v0 := .bool true) (by kernel_rfl) (fun _ => by kernel_rfl) rfl) hSd ?_
      simp only [Act.put, List.setIfInBounds_toArray, List.set_cons_succ, List.set_cons_zero]
      refine takeD 2 (some 24) (.agg (posC c)) (by kernel_rfl) (by kernel_rfl) (by kernel_rfl) (by kernel_rfl) (by kernel_rfl) (fun _ _ _ h => h) (yieldsIf_load_mid (by kernel_rfl) 31 (.tmp 1) (by kernel_rfl) w.heap.size 0 (by kernel_rfl) (posL c) _ (fun _ h => pos_range h.1.heap) hu rfl hinfo) hSd ?_
      simp only [Act.put, List.setIfInBounds_toArray, List.set_cons_succ, List.set_cons_zero]
      refine takeD 4 (some 26) (.agg (posC c)) (by kernel_rfl) (by kernel_rfl) (by kernel_rfl) (by kernel_rfl) (by kernel_rfl) (fun _ _ _ h => h) (yieldsIf_load_mid (by kernel_rfl) 31 (.tmp 1) (by kernel_rfl) w.heap.size 0 (by kernel_rfl) (posL c) _ (fun _ h => pos_range h.1.heap) hu rfl hinfo) hSd ?_
      simp only [Act.put, List.setIfInBounds_toArray, List.set_cons_succ, List.set_cons_zero]
      refine wpAnyH_all (rs := [3]) (by kernel_rfl) (by simp) (fun i hi => ?_)
      obtain rfl : i = 3 := by simpa using hi
      clear hi
      refine wpOp_at rfl rfl ?_
      unfold Oper.wp
      go_simp
      refine (HL.out _ (HT.out _ hSd.2)).mono ?_
      rintro e u3 ⟨v3, rfl, hown3, hb⟩
      have hS3 : PosAt u3 w.heap.size c ∧ Below w.heap.size w u3 := ⟨hSd.1.below hb, below_next hSd.2 hb⟩
      clear hb
      refine ⟨hS3, ?_⟩
      refine wpAnyH_all (rs := [5]) (by kernel_rfl) (by simp) (fun i hi => ?_)
      obtain rfl : i = 5 := by simpa using hi
      clear hi
      refine wpOp_at rfl rfl ?_
      unfold Oper.wp
      go_simp
      refine (HD.out _).mono ?_
      rintro e u4 ⟨v4, rfl, hown4, hb⟩
      have hS4 : PosAt u4 w.heap.size c ∧ Below w.heap.size w u4 := ⟨hS3.1.below hb, below_next hS3.2 hb⟩
      replace hown3 := owns_below hown3 hb
      clear hb
      refine ⟨hS4, ?_⟩
      refine wpAnyH_all (rs := [6]) (by kernel_rfl) (by simp) (fun i hi => ?_)
      obtain rfl : i = 6 := by simpa using hi
      clear hi
      refine wpOp_at rfl rfl ?_
      unfold Oper.wp
      go_simp
      refine (same13_any L L v3 v4 _ _ _ _ hown3 hown4).mono ?_
      rw [hLL]
      rintro e u5 ⟨rfl, hb⟩
      have hS5 : PosAt u5 w.heap.size c ∧ Below w.heap.size w u5 := ⟨hS4.1.below hb, below_next hS4.2 hb⟩
      clear hb
      refine ⟨hS5, ?_⟩
      refine takeD 7 (some 29) (.bool true) (by kernel_rfl) (by kernel_rfl) (by kernel_rfl) (by kernel_rfl) (by kernel_rfl) (fun _ _ _ h => h) (yi_pure (v0 := .bool true) (by kernel_rfl) (fun _ => by kernel_rfl) rfl) hS5 ?_
      simp only [Act.put, List.setIfInBounds_toArray, List.set_cons_succ, List.set_cons_zero]
      refine takeD 8 (some 30) (.bool true) (by kernel_rfl) (by kernel_rfl) (by kernel_rfl) (by kernel_rfl) (by kernel_rfl) (fun _ _ _ h => h) (yi_pure (v0 := .bool true) (by kernel_rfl) (fun _ => by kernel_rfl) rfl) hS5 ?_
      simp only [Act.put, List.setIfInBounds_toArray, List.set_cons_succ, List.set_cons_zero]
      refine wpAnyH_all (rs := [9]) (by kernel_rfl) (by simp) (fun i hi => ?_)
      obtain rfl : i = 9 := by simpa using hi
      clear hi
      refine wpOp_at rfl rfl ?_
      unfold Oper.wp
      go_simp
      refine (awake13_any _ (HT.out _ hS5.2)).mono ?_
      rintro e u6 ⟨rfl, hb⟩
      have hS6 : PosAt u6 w.heap.size c ∧ Below w.heap.size w u6 := ⟨hS5.1.below hb, below_next hS5.2 hb⟩
      refine ⟨hS6, ?_⟩
      refine takeD 10 (some 32) (.bool true) (by kernel_rfl) (by kernel_rfl) (by kernel_rfl) (by kernel_rfl) (by kernel_rfl) (fun _ _ _ h => h) (yi_pure (v0 := .bool true) (by kernel_rfl) (fun _ => by kernel_rfl) rfl) hS6 ?_
      simp only [Act.put, List.setIfInBounds_toArray, List.set_cons_succ, List.set_cons_zero]
      refine takeD 11 (some 2) (.bool true) (by kernel_rfl) (by kernel_rfl) (by kernel_rfl) (by kernel_rfl) (by kernel_rfl) (fun _ _ _ h => h) (yi_pure (v0 := .bool true) (by kernel_rfl) (fun _ => by kernel_rfl) rfl) hS6 ?_
      simp only [Act.put, List.setIfInBounds_toArray, List.set_cons_succ, List.set_cons_zero]
      refine wpAnyH_done (by kernel_rfl) ?_ _
      go_wp2
      go_ret
      exact ⟨rfl, hS6.2⟩
  · subst hv
    have HR := Lib.hid (And.intro (RowAt.mk hg) (And.intro hp hb0))
    simp only [World.size_alloc] at hbb
    have hsz : L.length * 5 ≤ cur.size := by rw [hcs]; omega
    have Hsz := Lib.hid hsz
    obtain ⟨q, hq⟩ : ∃ q, L.length = q := ⟨_, rfl⟩
    have Hq := Lib.hid hq
    rw [hq] at hL2 hnc ⊢
    clear hown hp hb0 hg hcs htake hsz hq
    unfold maxLen at hcm
    go_wp2
    go_loopw [5] (fun i wr => ∃ n : Nat, n ≤ q ∧ i = .int .i64 (n : Int) ∧ (∃ cs : Array Value, q * 5 ≤ cs.size ∧ RowAt wr b 36 cs) ∧ PosAt wr w.heap.size c ∧ Below w.heap.size w wr) (fun i _ => q - (intOf i).toNat)
    case atStart => exact ⟨0, by omega, rfl, ⟨_, by rw [← Hq.out]; exact Hsz.out, HR.out.1⟩, HR.out.2.1, HR.out.2.2⟩
    case round =>
      obtain ⟨n, hn, rfl, ⟨cs, hcs, hR⟩, hp, hbr⟩ := hrel
      by_cases hlt : n < q
      · go_wp2_with (first
          | ((with_reducible refine wpl_zero_at rfl _ _ rfl ?_); refine ⟨b, n * 5, cs, _, rfl, ⟨_, rfl, rfl, (by simp [Value.oneCell'])⟩, hR, (by omega), ?_⟩; intro W' cs2 hW' hcs2 hR'))
        exact ⟨⟨n + 1, by omega, by go_num, ⟨_, by omega, hR'⟩, hW'.pos hp (by omega), hW'.below hbr (by omega)⟩, by simp [intOf]; omega⟩
      · obtain rfl : n = q := by omega
        go_wp2_with fail
        refine wp_region_held (S := fun w' => PosAt w' w.heap.size c ∧ Below w.heap.size w w') (by kernel_rfl) ?_
        have hSd : PosAt wr.drew w.heap.size c ∧ Below w.heap.size w wr.drew := ⟨⟨hp.heap⟩, M.below_drew hbr 1⟩
        refine takeD 0 (some 22) (.bool true) (by kernel_rfl) (by kernel_rfl) (by kernel_rfl) (by kernel_rfl) (by kernel_rfl) (fun _ _ _ h => h) (yi_pure (v0 := .bool true) (by kernel_rfl) (fun _ => by kernel_rfl) rfl) hSd ?_
        simp only [Act.put, List.setIfInBounds_toArray, List.set_cons_succ, List.set_cons_zero]
        refine takeD 1 (some 23) (.bool true) (by kernel_rfl) (by kernel_rfl) (by kernel_rfl) (by kernel_rfl) (by kernel_rfl) (fun _ _ _ h => h) (yi_pure (v0 := .bool true) (by kernel_rfl) (fun _ => by kernel_rfl) rfl) hSd ?_
        simp only [Act.put, List.setIfInBounds_toArray, List.set_cons_succ, List.set_cons_zero]
        refine takeD 2 (some 24) (.agg (posC c)) (by kernel_rfl) (by kernel_rfl) (by kernel_rfl) (by kernel_rfl) (by kernel_rfl) (fun _ _ _ h => h) (yieldsIf_load_mid (by kernel_rfl) 31 (.tmp 1) (by kernel_rfl) w.heap.size 0 (by kernel_rfl) (posL c) _ (fun _ h => pos_range h.1.heap) hu rfl hinfo) hSd ?_
        simp only [Act.put, List.setIfInBounds_toArray, List.set_cons_succ, List.set_cons_zero]
        refine takeD 4 (some 26) (.agg (posC c)) (by kernel_rfl) (by kernel_rfl) (by kernel_rfl) (by kernel_rfl) (by kernel_rfl) (fun _ _ _ h => h) (yieldsIf_load_mid (by kernel_rfl) 31 (.tmp 1) (by kernel_rfl) w.heap.size 0 (by kernel_rfl) (posL c) _ (fun _ h => pos_range h.1.heap) hu rfl hinfo) hSd ?_
        simp only [Act.put, List.setIfInBounds_toArray, List.set_cons_succ, List.set_cons_zero]
        refine wpAnyH_all (rs := [3]) (by kernel_rfl) (by simp) (fun i hi => ?_)
        obtain rfl : i = 3 := by simpa using hi
        clear hi
        refine wpOp_at rfl rfl ?_
        unfold Oper.wp
        go_simp
        refine (HL.out _ (HT.out _ hSd.2)).mono ?_
        rintro e u3 ⟨v3, rfl, hown3, hb⟩
        have hS3 : PosAt u3 w.heap.size c ∧ Below w.heap.size w u3 := ⟨hSd.1.below hb, below_next hSd.2 hb⟩
        clear hb
        refine ⟨hS3, ?_⟩
        refine wpAnyH_all (rs := [5]) (by kernel_rfl) (by simp) (fun i hi => ?_)
        obtain rfl : i = 5 := by simpa using hi
        clear hi
        refine wpOp_at rfl rfl ?_
        unfold Oper.wp
        go_simp
        refine (HD.out _).mono ?_
        rintro e u4 ⟨v4, rfl, hown4, hb⟩
        have hS4 : PosAt u4 w.heap.size c ∧ Below w.heap.size w u4 := ⟨hS3.1.below hb, below_next hS3.2 hb⟩
        replace hown3 := owns_below hown3 hb
        clear hb
        refine ⟨hS4, ?_⟩
        refine wpAnyH_all (rs := [6]) (by kernel_rfl) (by simp) (fun i hi => ?_)
        obtain rfl : i = 6 := by simpa using hi
        clear hi
        refine wpOp_at rfl rfl ?_
        unfold Oper.wp
        go_simp
        refine (same13_any L L v3 v4 _ _ _ _ hown3 hown4).mono ?_
        rw [hLL]
        rintro e u5 ⟨rfl, hb⟩
        have hS5 : PosAt u5 w.heap.size c ∧ Below w.heap.size w u5 := ⟨hS4.1.below hb, below_next hS4.2 hb⟩
        clear hb
        refine ⟨hS5, ?_⟩
        refine takeD 7 (some 29) (.bool true) (by kernel_rfl) (by kernel_rfl) (by kernel_rfl) (by kernel_rfl) (by kernel_rfl) (fun _ _ _ h => h) (yi_pure (v0 := .bool true) (by kernel_rfl) (fun _ => by kernel_rfl) rfl) hS5 ?_
        simp only [Act.put, List.setIfInBounds_toArray, List.set_cons_succ, List.set_cons_zero]
        refine takeD 8 (some 30) (.bool true) (by kernel_rfl) (by kernel_rfl) (by kernel_rfl) (by kernel_rfl) (by kernel_rfl) (fun _ _ _ h => h) (yi_pure (v0 := .bool true) (by kernel_rfl) (fun _ => by kernel_rfl) rfl) hS5 ?_
        simp only [Act.put, List.setIfInBounds_toArray, List.set_cons_succ, List.set_cons_zero]
        refine wpAnyH_all (rs := [9]) (by kernel_rfl) (by simp) (fun i hi => ?_)
        obtain rfl : i = 9 := by simpa using hi
        clear hi
        refine wpOp_at rfl rfl ?_
        unfold Oper.wp
        go_simp
        refine (awake13_any _ (HT.out _ hS5.2)).mono ?_
        rintro e u6 ⟨rfl, hb⟩
        have hS6 : PosAt u6 w.heap.size c ∧ Below w.heap.size w u6 := ⟨hS5.1.below hb, below_next hS5.2 hb⟩
        refine ⟨hS6, ?_⟩
        refine takeD 10 (some 32) (.bool true) (by kernel_rfl) (by kernel_rfl) (by kernel_rfl) (by kernel_rfl) (by kernel_rfl) (fun _ _ _ h => h) (yi_pure (v0 := .bool true) (by kernel_rfl) (fun _ => by kernel_rfl) rfl) hS6 ?_
        simp only [Act.put, List.setIfInBounds_toArray, List.set_cons_succ, List.set_cons_zero]
        refine takeD 11 (some 2) (.bool true) (by kernel_rfl) (by kernel_rfl) (by kernel_rfl) (by kernel_rfl) (by kernel_rfl) (fun _ _ _ h => h) (yi_pure (v0 := .bool true) (by kernel_rfl) (fun _ => by kernel_rfl) rfl) hS6 ?_
        simp only [Act.put, List.setIfInBounds_toArray, List.set_cons_succ, List.set_cons_zero]
        refine wpAnyH_done (by kernel_rfl) ?_ _
        go_wp2
        go_ret
        exact ⟨rfl, hS6.2⟩

end Go.Proofs.YtlphjjekamhnlaaDoor
