/- The law CastleList. -/
import Derived.Test.YtnkkhdcjbjiimaaDoorCastZ
import Derived.Test.YtnkkhdcjbjiimaaDoorCastQ
import Derived.Test.YtnkkhdcjbjiimaaDoorCastWl
import Derived.Test.YtnkkhdcjbjiimaaDoorMoves13
import Derived.Test.YtnkkhdcjbjiimaaDoorTake
namespace Go.Proofs.YtnkkhdcjbjiimaaDoor
open Go.RowKit Go.Sort

namespace T
def toMv (x : Nat × Nat) : Mv := ((x.1 : Int), (x.2 : Int), 0, 0, true)
theorem cells_mv (l : List (Nat × Nat)) : cells l = M.cells (l.map toMv) := by
  unfold cells M.cells
  rw [List.flatMap_map]
  rfl
theorem End.row {l : List (Nat × Nat)} {w w' : World} {e : Ending} (h : End l w e w') : ∃ v, e = .returned v ∧ w'.ownsRow (w.heap.size + 1) 36 5 v (l.map toMv).length (M.cells (l.map toMv)) ∧ Below w.heap.size w w' := by
  obtain ⟨v, rfl, h1, h2⟩ := h
  exact ⟨v, rfl, by rw [List.length_map, ← cells_mv]; exact h1, h2⟩
end T
theorem clist_row (c : Nat → Int) (l : List Mv) (w : World) (hc : PosOk c) (hT : Tb w) (h : (T.clist c).map T.toMv = l) :
    Calls Tryd.prog 13 #[.agg (posC c)] w fun e w' => ∃ v, e = .returned v ∧ w'.ownsRow (w.heap.size + 1) 36 5 v l.length (M.cells l) ∧ Below w.heap.size w w' := by
  rw [← h]; exact (clist_any c w hc hT).mono fun e w' hh => T.End.row hh
theorem d14list_row (c : Nat → Int) (l : List Mv) (w : World) (hc : PosOk c) (h : (T.clist c).map T.toMv = l) :
    Calls Tryd.prog 15 #[.agg (posC c)] w fun e w' => ∃ v, e = .returned v ∧ w'.ownsRow (w.heap.size + 1) 36 5 v l.length (M.cells l) ∧ Below w.heap.size w w' := by
  rw [← h, T.clist_eq c hc]; exact (d14list_any c w hc).mono fun e w' hh => T.End.row hh

theorem Tryd.size_bool : (Tryd.prog.info? 4).map (·.size) = some 1 := by kernel_rfl

set_option maxRecDepth 100000 in
set_option maxHeartbeats 2000000 in
theorem castleList_walk (c : Nat → Int) (w : World) (hc : PosOk c) (hT : Tb w) :
    Calls Tryd.prog 3 #[.agg (posC c)] w fun e w' => e = .returned (.bool true) ∧ Below w.heap.size w w' := by
  obtain ⟨L, hL⟩ : ∃ L, (T.clist c).map T.toMv = L := ⟨_, rfl⟩
  have hL2 : L.length ≤ 2 := by rw [← hL, List.length_map]; exact T.clist_len c
  have hLL : (L == L) = true := by simp
  have hb0 : Below w.heap.size w (w.alloc (.cells (posC c) 31)) := (Below.refl _ _).alloc (Nat.le_refl _) _
  have hp := PosAt.new w c
  have HT := Lib.hid (fun W (hb : Below w.heap.size w W) => tb_below hT hb)
  have HL := Lib.hid (fun W (hT : Tb W) => clist_row c L W hc hT hL)
  have HD := Lib.hid (fun W => d14list_row c L W hc hL)
  clear hT hL hc
  have hu := Tryd.underlying31
  have hinfo : (Tryd.prog.info? 31).map (·.size) = some (posL c).length := by rw [Tryd.infoPos]; simp [posL]
  go_enter Tryd.func3, Tryd.ntmps3
  go_wp2_with (first
    | ((with_reducible refine wp_load_box rfl _ rfl ?_); refine ⟨_, _, rfl, hp, ?_⟩)
    | fail)
  refine (HL.out _ (HT.out _ hb0)).mono ?_
  rintro e u ⟨v, rfl, hown, hb⟩
  replace hp := hp.below hb
  replace hb0 := below_next hb0 hb
  have hbs := hp.lt
  clear hb
  go_wp2_with (first
    | ((with_reducible refine wp_load_box rfl _ rfl ?_); refine ⟨_, _, rfl, hp, ?_⟩)
    | fail)
  refine (HD.out _).mono ?_
  rintro e u1 ⟨v1, rfl, hown1, hb⟩
  replace hp := hp.below hb
  replace hown := owns_below hown hb
  replace hb0 := below_next hb0 hb
  clear hb
  go_wp2_with (fail)
  refine (same13_any L L v v1 _ _ _ _ hown hown1).mono ?_
  rw [hLL]
  rintro e u2 ⟨rfl, hb⟩
  replace hp := hp.below hb
  replace hown := owns_below hown hb
  replace hb0 := below_next hb0 hb
  clear hb hown1
  rcases hown.2 with ⟨hv, hl0⟩ | ⟨b, cap, cur, hv, hbb, hg, hnc, hcm, hcs, htake⟩
  · subst hv
    rw [hl0] at hL2
    have HR := Lib.hid (And.intro hp hb0)
    clear hown hp hb0
    go_wp2
    go_loopw [5] (fun i wr => i = .int .i64 0 ∧ PosAt wr w.heap.size c ∧ Below w.heap.size w wr) (fun _ _ => 0)
    case atStart => exact ⟨rfl, HR.out.1, HR.out.2⟩
    case round =>
      obtain ⟨rfl, hp, hbr⟩ := hrel
      go_wp2_with (fail)
      refine wp_region_held (S := fun w' => PosAt w' w.heap.size c ∧ Below w.heap.size w w') (by kernel_rfl) ?_
      have hSd : PosAt wr.drew w.heap.size c ∧ Below w.heap.size w wr.drew := ⟨⟨hp.heap⟩, M.below_drew hbr 1⟩
      refine takeD 0 (some 22) (.bool true) (by kernel_rfl) (by kernel_rfl) (by kernel_rfl) (by kernel_rfl) (by kernel_rfl) (fun _ _ _ h => h) (yi_pure (v0 := .bool true) (by kernel_rfl) (fun _ => by kernel_rfl) rfl) hSd ?_
      simp only [Act.put, List.setIfInBounds_toArray, List.set_cons_succ, List.set_cons_zero]
      refine takeD 1 (some 23) (.bool true) (by kernel_rfl) (by kernel_rfl) (by kernel_rfl) (by kernel_rfl) (by kernel_rfl) (fun _ _ _ h => h) (yi_pure (v0 := .bool true) (by kernel_rfl) (fun _ => by kernel_rfl) rfl) hSd ?_
      simp only [Act.put, List.setIfInBounds_toArray, List.set_cons_succ, List.set_cons_zero]
      refine takeD 2 (some 24) (.agg (posC c)) (by kernel_rfl) (by kernel_rfl) (by kernel_rfl) (by kernel_rfl) (by kernel_rfl) (fun _ _ _ h => h) (yieldsIf_load_mid (by kernel_rfl) 31 (.tmp 1) (by kernel_rfl) w.heap.size 0 (by kernel_rfl) (posL c) _ (fun _ h => pos_range h.1.heap) hu rfl hinfo) hSd ?_
      simp only [Act.put, List.setIfInBounds_toArray, List.set_cons_succ, List.set_cons_zero]
      refine takeD 4 (some 26) (.agg (posC c)) (by kernel_rfl) (by kernel_rfl) (by kernel_rfl) (by kernel_rfl) (by kernel_rfl) (fun _ _ _ h => h) (yieldsIf_load_mid (by kernel_rfl) 31 (.tmp 1) (by kernel_rfl) w.heap.size 0 (by kernel_rfl) (posL c) _ (fun _ h => pos_range h.1.heap) hu rfl hinfo) hSd ?_
      simp only [Act.put, List.setIfInBounds_toArray, List.set_cons_succ, List.set_cons_zero]
      refine wpAnyH_all (rs := [3]) (by kernel_rfl) (by simp) (fun i hi => ?_)
      obtain rfl : i = 3 := by simpa using hi
      clear hi
      refine wpOp_at rfl rfl ?_
      unfold Oper.wp
      go_simp
      refine (HL.out _ (HT.out _ hSd.2)).mono ?_
      rintro e u3 ⟨v3, rfl, hown3, hb⟩
      have hS3 : PosAt u3 w.heap.size c ∧ Below w.heap.size w u3 := ⟨hSd.1.below hb, below_next hSd.2 hb⟩
      clear hb
      refine ⟨hS3, ?_⟩
      refine wpAnyH_all (rs := [5]) (by kernel_rfl) (by simp) (fun i hi => ?_)
      obtain rfl : i = 5 := by simpa using hi
      clear hi
      refine wpOp_at rfl rfl ?_
      unfold Oper.wp
      go_simp
      refine (HD.out _).mono ?_
      rintro e u4 ⟨v4, rfl, hown4, hb⟩
      have hS4 : PosAt u4 w.heap.size c ∧ Below w.heap.size w u4 := ⟨hS3.1.below hb, below_next hS3.2 hb⟩
      replace hown3 := owns_below hown3 hb
      clear hb
      refine ⟨hS4, ?_⟩
      refine wpAnyH_all (rs := [6]) (by kernel_rfl) (by simp) (fun i hi => ?_)
      obtain rfl : i = 6 := by simpa using hi
      clear hi
      refine wpOp_at rfl rfl ?_
      unfold Oper.wp
      go_simp
      refine (same13_any L L v3 v4 _ _ _ _ hown3 hown4).mono ?_
      rw [hLL]
      rintro e u5 ⟨rfl, hb⟩
      have hS5 : PosAt u5 w.heap.size c ∧ Below w.heap.size w u5 := ⟨hS4.1.below hb, below_next hS4.2 hb⟩
      clear hb
      refine ⟨hS5, ?_⟩
      refine takeD 7 (some 29) (.bool true) (by kernel_rfl) (by kernel_rfl) (by kernel_rfl) (by kernel_rfl) (by kernel_rfl) (fun _ _ _ h => h) (yi_pure (v0 := .bool true) (by kernel_rfl) (fun _ => by kernel_rfl) rfl) hS5 ?_
      simp only [Act.put, List.setIfInBounds_toArray, List.set_cons_succ, List.set_cons_zero]
      refine takeD 8 (some 30) (.bool true) (by kernel_rfl) (by kernel_rfl) (by kernel_rfl) (by kernel_rfl) (by kernel_rfl) (fun _ _ _ h => h) (yi_pure (v0 := .bool true) (by kernel_rfl) (fun _ => by kernel_rfl) rfl) hS5 ?_
      simp only [Act.put, List.setIfInBounds_toArray, List.set_cons_succ, List.set_cons_zero]
      refine wpAnyH_all (rs := [9]) (by kernel_rfl) (by simp) (fun i hi => ?_)
      obtain rfl : i = 9 := by simpa using hi
      clear hi
      refine wpOp_at rfl rfl ?_
      unfold Oper.wp
      go_simp
      refine (awake14_any _ (HT.out _ hS5.2)).mono ?_
      rintro e u6 ⟨rfl, hb⟩
      have hS6 : PosAt u6 w.heap.size c ∧ Below w.heap.size w u6 := ⟨hS5.1.below hb, below_next hS5.2 hb⟩
      refine ⟨hS6, ?_⟩
      refine takeD 10 (some 32) (.bool true) (by kernel_rfl) (by kernel_rfl) (by kernel_rfl) (by kernel_rfl) (by kernel_rfl) (fun _ _ _ h => h) (yi_pure (v0 := .bool true) (by kernel_rfl) (fun _ => by kernel_rfl) rfl) hS6 ?_
      simp only [Act.put, List.setIfInBounds_toArray, List.set_cons_succ, List.set_cons_zero]
      refine takeD 11 (some 2) (.bool true) (by kernel_rfl) (by kernel_rfl) (by kernel_rfl) (by kernel_rfl) (by kernel_rfl) (fun _ _ _ h => h) (yi_pure (v0 := .bool true) (by kernel_rfl) (fun _ => by kernel_rfl) rfl) hS6 ?_
      simp only [Act.put, List.setIfInBounds_toArray, List.set_cons_succ, List.set_cons_zero]
      refine wpAnyH_done (by kernel_rfl) ?_ _
      go_wp2
      go_ret
      exact ⟨rfl, hS6.2⟩
  · subst hv
    have HR := Lib.hid (And.intro (RowAt.mk hg) (And.intro hp hb0))
    simp only [World.size_alloc] at hbb
    have hsz : L.length * 5 ≤ cur.size := by rw [hcs]; omega
    have Hsz := Lib.hid hsz
    obtain ⟨q, hq⟩ : ∃ q, L.length = q := ⟨_, rfl⟩
    have Hq := Lib.hid hq
    rw [hq] at hL2 hnc ⊢
    clear hown hp hb0 hg hcs htake hsz hq
    unfold maxLen at hcm
    go_wp2
    go_loopw [5] (fun i wr => ∃ n : Nat, n ≤ q ∧ i = .int .i64 (n : Int) ∧ (∃ cs : Array Value, q * 5 ≤ cs.size ∧ RowAt wr b 36 cs) ∧ PosAt wr w.heap.size c ∧ Below w.heap.size w wr) (fun i _ => q - (intOf i).toNat)
    case atStart => exact ⟨0, by omega, rfl, ⟨_, by rw [← Hq.out]; exact Hsz.out, HR.out.1⟩, HR.out.2.1, HR.out.2.2⟩
    case round =>
      obtain ⟨n, hn, rfl, ⟨cs, hcs, hR⟩, hp, hbr⟩ := hrel
      by_cases hlt : n < q
      · go_wp2_with (first
          | ((with_reducible refine wp_store_at rfl 4 _ _ rfl ?_); refine ⟨b, _, _, _, _, rfl, rfl, rfl, hR, (by omega), Tryd.size_bool, ?_⟩; intro W' hW' hR'))
        exact ⟨⟨n + 1, by omega, by go_num, ⟨_, by simpa using hcs, hR'⟩, hW'.pos hp (by omega), hW'.below hbr (by omega)⟩, by simp [intOf]; omega⟩
      · obtain rfl : n = q := by omega
        go_wp2_with (fail)
        refine wp_region_held (S := fun w' => PosAt w' w.heap.size c ∧ Below w.heap.size w w') (by kernel_rfl) ?_
        have hSd : PosAt wr.drew w.heap.size c ∧ Below w.heap.size w wr.drew := ⟨⟨hp.heap⟩, M.below_drew hbr 1⟩
        refine takeD 0 (some 22) (.bool true) (by kernel_rfl) (by kernel_rfl) (by kernel_rfl) (by kernel_rfl) (by kernel_rfl) (fun _ _ _ h => h) (yi_pure (v0 := .bool true) (by kernel_rfl) (fun _ => by kernel_rfl) rfl) hSd ?_
        simp only [Act.put, List.setIfInBounds_toArray, List.set_cons_succ, List.set_cons_zero]
        refine takeD 1 (some 23) (.bool true) (by kernel_rfl) (by kernel_rfl) (by kernel_rfl) (by kernel_rfl) (by kernel_rfl) (fun _ _ _ h => h) (yi_pure (v0 := .bool true) (by kernel_rfl) (fun _ => by kernel_rfl) rfl) hSd ?_
        simp only [Act.put, List.setIfInBounds_toArray, List.set_cons_succ, List.set_cons_zero]
        refine takeD 2 (some 24) (.agg (posC c)) (by kernel_rfl) (by kernel_rfl) (by kernel_rfl) (by kernel_rfl) (by kernel_rfl) (fun _ _ _ h => h) (yieldsIf_load_mid (by kernel_rfl) 31 (.tmp 1) (by kernel_rfl) w.heap.size 0 (by kernel_rfl) (posL c) _ (fun _ h => pos_range h.1.heap) hu rfl hinfo) hSd ?_
        simp only [Act.put, List.setIfInBounds_toArray, List.set_cons_succ, List.set_cons_zero]
        refine takeD 4 (some 26) (.agg (posC c)) (by kernel_rfl) (by kernel_rfl) (by kernel_rfl) (by kernel_rfl) (by kernel_rfl) (fun _ _ _ h => h) (yieldsIf_load_mid (by kernel_rfl) 31 (.tmp 1) (by kernel_rfl) w.heap.size 0 (by kernel_rfl) (posL c) _ (fun _ h => pos_range h.1.heap) hu rfl hinfo) hSd ?_
        simp only [Act.put, List.setIfInBounds_toArray, List.set_cons_succ, List.set_cons_zero]
        refine wpAnyH_all (rs := [3]) (by kernel_rfl) (by simp) (fun i hi => ?_)
        obtain rfl : i = 3 := by simpa using hi
        clear hi
        refine wpOp_at rfl rfl ?_
        unfold Oper.wp
        go_simp
        refine (HL.out _ (HT.out _ hSd.2)).mono ?_
        rintro e u3 ⟨v3, rfl, hown3, hb⟩
        have hS3 : PosAt u3 w.heap.size c ∧ Below w.heap.size w u3 := ⟨hSd.1.below hb, below_next hSd.2 hb⟩
        clear hb
        refine ⟨hS3, ?_⟩
        refine wpAnyH_all (rs := [5]) (by kernel_rfl) (by simp) (fun i hi => ?_)
        obtain rfl : i = 5 := by simpa using hi
        clear hi
        refine wpOp_at rfl rfl ?_
        unfold Oper.wp
        go_simp
        refine (HD.out _).mono ?_
        rintro e u4 ⟨v4, rfl, hown4, hb⟩
        have hS4 : PosAt u4 w.heap.size c ∧ Below w.heap.size w u4 := ⟨hS3.1.below hb, below_next hS3.2 hb⟩
        replace hown3 := owns_below hown3 hb
        clear hb
        refine ⟨hS4, ?_⟩
        refine wpAnyH_all (rs := [6]) (by kernel_rfl) (by simp) (fun i hi => ?_)
        obtain rfl : i = 6 := by simpa using hi
        clear hi
        refine wpOp_at rfl rfl ?_
        unfold Oper.wp
        go_simp
        refine (same13_any L L v3 v4 _ _ _ _ hown3 hown4).mono ?_
        rw [hLL]
        rintro e u5 ⟨rfl, hb⟩
        have hS5 : PosAt u5 w.heap.size c ∧ Below w.heap.size w u5 := ⟨hS4.1.below hb, below_next hS4.2 hb⟩
        clear hb
        refine ⟨hS5, ?_⟩
        refine takeD 7 (some 29) (.bool true) (by kernel_rfl) (by kernel_rfl) (by kernel_rfl) (by kernel_rfl) (by kernel_rfl) (fun _ _ _ h => h) (yi_pure (v0 := .bool true) (by kernel_rfl) (fun _ => by kernel_rfl) rfl) hS5 ?_
        simp only [Act.put, List.setIfInBounds_toArray, List.set_cons_succ, List.set_cons_zero]
        refine takeD 8 (some 30) (.bool true) (by kernel_rfl) (by kernel_rfl) (by kernel_rfl) (by kernel_rfl) (by kernel_rfl) (fun _ _ _ h => h) (yi_pure (v0 := .bool true) (by kernel_rfl) (fun _ => by kernel_rfl) rfl) hS5 ?_
        simp only [Act.put, List.setIfInBounds_toArray, List.set_cons_succ, List.set_cons_zero]
        refine wpAnyH_all (rs := [9]) (by kernel_rfl) (by simp) (fun i hi => ?_)
        obtain rfl : i = 9 := by simpa using hi
        clear hi
        refine wpOp_at rfl rfl ?_
        unfold Oper.wp
        go_simp
        refine (awake14_any _ (HT.out _ hS5.2)).mono ?_
        rintro e u6 ⟨rfl, hb⟩
        have hS6 : PosAt u6 w.heap.size c ∧ Below w.heap.size w u6 := ⟨hS5.1.below hb, below_next hS5.2 hb⟩
        refine ⟨hS6, ?_⟩
        refine takeD 10 (some 32) (.bool true) (by kernel_rfl) (by kernel_rfl) (by kernel_rfl) (by kernel_rfl) (by kernel_rfl) (fun _ _ _ h => h) (yi_pure (v0 := .bool true) (by kernel_rfl) (fun _ => by kernel_rfl) rfl) hS6 ?_
        simp only [Act.put, List.setIfInBounds_toArray, List.set_cons_succ, List.set_cons_zero]
        refine takeD 11 (some 2) (.bool true) (by kernel_rfl) (by kernel_rfl) (by kernel_rfl) (by kernel_rfl) (by kernel_rfl) (fun _ _ _ h => h) (yi_pure (v0 := .bool true) (by kernel_rfl) (fun _ => by kernel_rfl) rfl) hS6 ?_
        simp only [Act.put, List.setIfInBounds_toArray, List.set_cons_succ, List.set_cons_zero]
        refine wpAnyH_done (by kernel_rfl) ?_ _
        go_wp2
        go_ret
        exact ⟨rfl, hS6.2⟩

end Go.Proofs.YtnkkhdcjbjiimaaDoor
