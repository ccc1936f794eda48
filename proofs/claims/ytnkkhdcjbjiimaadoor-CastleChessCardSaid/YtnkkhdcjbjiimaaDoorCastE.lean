/- The program's package castle: may. -/
import Derived.Test.YtnkkhdcjbjiimaaDoorCastC
import Derived.Test.YtnkkhdcjbjiimaaDoorCastD
import Derived.Test.YtnkkhdcjbjiimaaDoorPinsOn
namespace Go.Proofs.YtnkkhdcjbjiimaaDoor
open Go.RowKit Go.Sort
attribute [local go_sem] Oper.semAt_some

/-- The board without king and rook. -/
def T.bare (c : Nat → Int) (k s : Nat) : Nat → Int := upd (upd c (1 + k) 0) (1 + s) 0
def T.emptyB (c : Nat → Int) (k s x : Nat) : Bool := !bit (S.all (T.bare c k s)) x
def T.safeB (c : Nat → Int) (t k s x : Nat) : Bool := (c 0 == 3 && U (bAnd (R.king (x : Int)) (S.of c (1 - (t : Int)) 6)) != 0) || !K.on (T.bare c k s) x (1 - (t : Int))
def T.kg (t d : Nat) : Nat := 56 * t + (if d = 0 then 6 else 2)
def T.rg (t d : Nat) : Nat := 56 * t + (if d = 0 then 5 else 3)
def T.mayOk (c : Nat → Int) (t d k s : Nat) : Bool := ((T.seg k (T.kg t d)).all fun x => T.emptyB c k s x.val) && (((T.seg s (T.rg t d)).all fun x => T.emptyB c k s x.val) && ((T.seg k (T.kg t d)).all fun x => T.safeB c t k s x.val))
theorem T.bare_bd (c : Nat → Int) (k s : Nat) (hc : BdOk c) : BdOk (T.bare c k s) := fun j hj => by
  unfold T.bare upd
  split
  · omega
  · split
    · omega
    · exact hc j hj
theorem Tryd.size_Move : (Tryd.prog.info? 36).map (·.size) = some 5 := by kernel_rfl
theorem T.move_one (a b p d : Int) (e : Bool) : (#[.int .i8 a, .int .i8 b, .int .u8 p, .int .u8 d, .bool e] : Array Value).all (·.oneCell') = true := by simp [Value.oneCell']
theorem zero31_sizeC : Tryd.zeroCells31.size = 88 := by kernel_rfl

set_option maxRecDepth 100000 in
set_option maxHeartbeats 4000000 in
theorem cmay_in (c : Nat → Int) (t d k s : Nat) (w : World) (hc : PosOk c) (ht : t < 2) (hd : d < 2) (hk : k < 64) (hct : c 78 = (t : Int)) (hs : 56 * t ≤ s ∧ s ≤ 56 * t + 7) (hf : c (T.rightAt t d) = (s : Int) - 56 * t) (hb : T.rookOk c t d k s = true) (hT : Tb w) :
    Calls Tryd.prog 40 #[.agg (posC c), .int .i64 (k : Int), .int .i64 (d : Int)] w fun e w' => e = .returned (.tuple #[.agg #[.int .i8 (k : Int), .int .i8 (s : Int), .int .u8 0, .int .u8 0, .bool true], .bool (T.mayOk c t d k s)]) ∧ Below w.heap.size w w' := by
  have hb0 : Below w.heap.size w ((w.alloc (.cells (posC c) 31)).alloc (.cells #[.int .i8 0, .int .i8 0, .int .u8 0, .int .u8 0, .bool false] 36)) := ((Below.refl _ _).alloc (Nat.le_refl _) _).alloc (by simp) _
  have hp := (PosAt.new w c).alloc (.cells #[.int .i8 0, .int .i8 0, .int .u8 0, .int .u8 0, .bool false] 36)
  have hM : RowAt ((w.alloc (.cells (posC c) 31)).alloc (.cells #[.int .i8 0, .int .i8 0, .int .u8 0, .int .u8 0, .bool false] 36)) (w.heap.size + 1) 36 #[.int .i8 0, .int .i8 0, .int .u8 0, .int .u8 0, .bool false] := by
    have := RowAt.new (w.alloc (.cells (posC c) 31)) #[.int .i8 0, .int .i8 0, .int .u8 0, .int .u8 0, .bool false] 36
    rwa [World.size_alloc] at this
  have hcb := pos_bd hc
  have hqb := T.bare_bd c k s hcb
  have R1 := Lib.hid (fun W => rook_in c t d k s true W hc ht hd hct hs hf hb)
  have hsk : s ≠ k := by
    unfold T.rookOk at hb
    simp only [Bool.and_eq_true, bne_iff_ne] at hb
    intro e; exact hb.2.2 (by rw [e])
  have hs64 : s < 64 := by omega
  have hIk : (k : Int) < 64 := by omega
  have hIs : (s : Int) < 64 := by omega
  have w8k : IntKind.i8.wrap (k : Int) = (k : Int) := by unfold IntKind.wrap; simp [IntKind.bits, IntKind.signed]; omega
  have w8s : IntKind.i8.wrap (s : Int) = (s : Int) := by unfold IntKind.wrap; simp [IntKind.bits, IntKind.signed]; omega
  have HT := Lib.hid (fun W (hb : Below w.heap.size w W) => tb_below hT hb)
  clear hb hf hc hT
  have i0 : ∀ w : World, (Instr.index 78 (.agg #[.int .i64 6, .int .i64 5, .int .i64 2, .int .i64 3]) (.int .i64 0)).run Tryd.prog w = .ok (.agg #[.int .i64 6, .int .i64 5]) w := fun _ => by kernel_rfl
  have i1 : ∀ w : World, (Instr.index 78 (.agg #[.int .i64 6, .int .i64 5, .int .i64 2, .int .i64 3]) (.int .i64 1)).run Tryd.prog w = .ok (.agg #[.int .i64 2, .int .i64 3]) w := fun _ => by kernel_rfl
  have i2 : ∀ w : World, (Instr.index 77 (.agg #[.int .i64 6, .int .i64 5]) (.int .i64 0)).run Tryd.prog w = .ok (.int .i64 6) w := fun _ => by kernel_rfl
  have i3 : ∀ w : World, (Instr.index 77 (.agg #[.int .i64 6, .int .i64 5]) (.int .i64 1)).run Tryd.prog w = .ok (.int .i64 5) w := fun _ => by kernel_rfl
  have i4 : ∀ w : World, (Instr.index 77 (.agg #[.int .i64 2, .int .i64 3]) (.int .i64 0)).run Tryd.prog w = .ok (.int .i64 2) w := fun _ => by kernel_rfl
  have i5 : ∀ w : World, (Instr.index 77 (.agg #[.int .i64 2, .int .i64 3]) (.int .i64 1)).run Tryd.prog w = .ok (.int .i64 3) w := fun _ => by kernel_rfl
  rcases (show t = 0 ∨ t = 1 by omega) with rfl | rfl <;> rcases (show d = 0 ∨ d = 1 by omega) with rfl | rfl
  · go_enter Tryd.func40, Tryd.ntmps40
    go_wp2_with (first
      | ((with_reducible refine wp_load_box rfl _ rfl ?_); refine ⟨_, _, rfl, (by first | assumption | exact hp.alloc _), ?_⟩)
      | ((with_reducible refine wp_store_box rfl _ _ rfl ?_); refine ⟨_, c, rfl, rfl, ⟨_, heap_alloc_new _ _, zero31_sizeC⟩, ?_⟩; intro V hV hq; have hne := hp.lt; have hne1 := hM.lt; replace hp := hV.pos (hp.alloc _) (by omega); replace hM := hV.row (hM.alloc _) (by have := hM.lt; omega); replace hb0 := hV.below (hb0.alloc hb0.size _) hb0.size; clear hV)
      | (go_at_call 64; refine (R1.out _).mono ?_; rintro e u ⟨rfl, hb⟩; replace hp := hp.below hb; replace hM := hM.below hb; replace hb0 := below_next hb0 hb; clear hb; have h78 := hp.cell (i := 78) (by decide); rw [hct, show pk 78 = .u8 from rfl] at h78)
      | (go_at_call 44; refine (goals_any _).mono ?_; rintro e u ⟨rfl, hb⟩; replace hp := hp.below hb; replace hM := hM.below hb; replace hb0 := below_next hb0 hb; clear hb; have h78 := hp.cell (i := 78) (by decide); rw [hct, show pk 78 = .u8 from rfl] at h78)
      | (go_at_call 39; refine (home_any 0 _ (by decide)).mono ?_; rintro e u ⟨rfl, rfl⟩))
    have hG := RowAt.new u #[.int .i64 6, .int .i64 5] 77
    replace hp := hp.alloc (.cells #[.int .i64 6, .int .i64 5] 77)
    replace hM := hM.alloc (.cells #[.int .i64 6, .int .i64 5] 77)
    have hgu := hb0.size
    replace hb0 := hb0.alloc hb0.size (.cells #[.int .i64 6, .int .i64 5] 77)
    have c78 := hp.cell (i := 78) (by decide)
    rw [hct, show pk 78 = .u8 from rfl] at c78
    have g0 := hG.cell 0
    have g1 := hG.cell 1
    simp only [List.getElem?_toArray, List.getElem?_cons_zero, List.getElem?_cons_succ] at g0 g1
    have lp := hp.lt
    have lG := hG.lt
    revert hp hM hb0 c78 g0 g1 lp lG hG
    generalize u.alloc (.cells #[.int .i64 6, .int .i64 5] 77) = u2
    intro hG hp hM hb0 c78 g0 g1 lp lG
    go_quiet ((go_at_call 39; exact quiet_same (home_any 0 _ (by decide))))
    replace hp := hp.drewN nq
    replace hM := hM.drewN nq
    replace hb0 := T.below_drew hb0 nq
    clear c78 g0 g1 lp lG hG
    revert hp hM hb0
    generalize u2.drewN nq = u3
    intro hp hM hb0
    go_wp2_with (first
      | ((with_reducible refine wp_load_box rfl _ rfl ?_); refine ⟨_, _, rfl, (by first | assumption | exact hp.alloc _), ?_⟩)
      | ((with_reducible refine wp_store_box rfl _ _ rfl ?_); refine ⟨_, c, rfl, rfl, ⟨_, heap_alloc_new _ _, zero31_sizeC⟩, ?_⟩; intro V hV hq; have hne := hp.lt; have hne1 := hM.lt; replace hp := hV.pos (hp.alloc _) (by omega); replace hM := hV.row (hM.alloc _) (by have := hM.lt; omega); replace hb0 := hV.below (hb0.alloc hb0.size _) hb0.size; clear hV)
      | ((with_reducible refine wp_store_cell rfl _ _ _ rfl ?_); refine ⟨_, _, _, _, _, rfl, rfl, hq, (by omega), (by first | exact pk_board hk | exact pk_board hs64), Tryd.size_u8, ?_⟩; intro V hV hq2; replace hp := hV.pos hp (by omega); replace hM := hV.row hM (by omega); replace hb0 := hV.below hb0 (by omega); clear hV hq; have hq := hq2; clear hq2)
      | (go_at_call 51; refine (all_any (T.bare c k s) _ hqb).mono ?_; rintro e u4 ⟨rfl, hb⟩; replace hp := hp.below hb; replace hM := hM.below hb; replace hq : PosAt u4 _ (T.bare c k s) := hq.below hb; replace hb0 := below_next hb0 hb; clear hb; have l4 := hp.lt; have h78 := (hp.alloc (.cells #[.int .u64 (U (S.all (T.bare c k s)))] 23)).cell (i := 78) (by decide); rw [hct, show pk 78 = .u8 from rfl] at h78)
      | (go_at_call 62; refine (of_any c _ _ _ hcb).mono ?_; rintro e u5 ⟨rfl, hb⟩; have hN := (RowAt.new _ _ _).below hb; replace hp := (hp.alloc _).below hb; replace hM := (hM.alloc _).below hb; replace hq := (hq.alloc _).below hb; replace hb0 := below_next (hb0.alloc hb0.size _) hb; clear hb))
    have hO := RowAt.new u5 #[.int .u64 (U (S.of c 1 6))] 23
    replace hp := hp.alloc (.cells #[.int .u64 (U (S.of c 1 6))] 23)
    replace hM := hM.alloc (.cells #[.int .u64 (U (S.of c 1 6))] 23)
    replace hq := hq.alloc (.cells #[.int .u64 (U (S.of c 1 6))] 23)
    replace hN := hN.alloc (.cells #[.int .u64 (U (S.of c 1 6))] 23)
    replace hb0 := hb0.alloc hb0.size (.cells #[.int .u64 (U (S.of c 1 6))] 23)
    clear h78
    revert hO hp hM hq hN hb0
    generalize u5.alloc (.cells #[.int .u64 (U (S.of c 1 6))] 23) = u6
    intro hO hp hM hq hN hb0
    refine (all_empty k 6 u4.heap.size (T.emptyB c k s) _ hk (by decide) (fun x hx W hb => may1_any x u4.heap.size _ _ W hx ((hN.below hb).cell 0) rfl)).mono ?_
    rintro e u7 ⟨rfl, hb⟩
    replace hO := hO.below hb
    replace hp := hp.below hb
    replace hM := hM.below hb
    replace hq := hq.below hb
    replace hN := hN.below hb
    replace hb0 := below_next hb0 hb
    clear hb
    cases v1 : (T.seg k 6).all fun x => T.emptyB c k s x.val
    · go_wp2_with (first
        | ((with_reducible refine wp_store_row' rfl _ _ _ rfl ?_); refine ⟨w.heap.size + 1, _, _, rfl, rfl, ⟨_, hM.heap, rfl⟩, Tryd.size_Move, T.move_one _ _ _ _ _, ?_⟩; intro V hV hMV; replace hb0 := hV.below hb0 (Nat.le_succ _)))
      have hok : T.mayOk c 0 0 k s = false := by unfold T.mayOk; rw [show T.kg 0 0 = 6 from rfl, v1]; rfl
      exact bodyPost_ret (v := .tuple #[.agg #[.int .i8 (k : Int), .int .i8 (s : Int), .int .u8 0, .int .u8 0, .bool true], .bool false]) (results_cell_tmp Tryd.results40 _ _ (w.heap.size + 1) 36 _ _ _ rfl rfl hMV Tryd.underlying36 rfl Tryd.size_Move) rfl ⟨by rw [hok], hb0⟩
    · go_wp2_with fail
      refine (all_empty s 5 u4.heap.size (T.emptyB c k s) _ hs64 (by decide) (fun x hx W hb => may1_any x u4.heap.size _ _ W hx ((hN.below hb).cell 0) rfl)).mono ?_
      rintro e u8 ⟨rfl, hb⟩
      replace hO := hO.below hb
      replace hp := hp.below hb
      replace hM := hM.below hb
      replace hq := hq.below hb
      replace hN := hN.below hb
      replace hb0 := below_next hb0 hb
      clear hb
      cases v2 : (T.seg s 5).all fun x => T.emptyB c k s x.val
      · go_wp2_with (first
          | ((with_reducible refine wp_store_row' rfl _ _ _ rfl ?_); refine ⟨w.heap.size + 1, _, _, rfl, rfl, ⟨_, hM.heap, rfl⟩, Tryd.size_Move, T.move_one _ _ _ _ _, ?_⟩; intro V hV hMV; replace hb0 := hV.below hb0 (Nat.le_succ _)))
        have hok : T.mayOk c 0 0 k s = false := by unfold T.mayOk; rw [show T.kg 0 0 = 6 from rfl, show T.rg 0 0 = 5 from rfl, v1, v2]; rfl
        exact bodyPost_ret (v := .tuple #[.agg #[.int .i8 (k : Int), .int .i8 (s : Int), .int .u8 0, .int .u8 0, .bool true], .bool false]) (results_cell_tmp Tryd.results40 _ _ (w.heap.size + 1) 36 _ _ _ rfl rfl hMV Tryd.underlying36 rfl Tryd.size_Move) rfl ⟨by rw [hok], hb0⟩
      · go_wp2_with fail
        refine (all_safe k 6 w.heap.size u5.heap.size u3.heap.size (T.safeB c 0 k s) _ hk (by decide) (fun x _ W hb => may2_any x 0 w.heap.size u5.heap.size u3.heap.size c (T.bare c k s) _ W (by decide) hct hqb (HT.out W (below_next hb0 hb)) (hp.below hb) ((hO.below hb).cell 0) (hq.below hb))).mono ?_
        rintro e u9 ⟨rfl, hb⟩
        replace hO := hO.below hb
        replace hp := hp.below hb
        replace hM := hM.below hb
        replace hq := hq.below hb
        replace hN := hN.below hb
        replace hb0 := below_next hb0 hb
        clear hb
        have hok : T.mayOk c 0 0 k s = ((T.seg k 6).all fun x => T.safeB c 0 k s x.val) := by unfold T.mayOk; rw [show T.kg 0 0 = 6 from rfl, show T.rg 0 0 = 5 from rfl, v1, v2]; rfl
        generalize ((T.seg k 6).all fun x => T.safeB c 0 k s x.val) = v3 at hok ⊢
        go_wp2_with (first
            | ((with_reducible refine wp_store_row' rfl _ _ _ rfl ?_); refine ⟨w.heap.size + 1, _, _, rfl, rfl, ⟨_, hM.heap, rfl⟩, Tryd.size_Move, T.move_one _ _ _ _ _, ?_⟩; intro V hV hMV; replace hb0 := hV.below hb0 (Nat.le_succ _)))
        exact bodyPost_ret (v := .tuple #[.agg #[.int .i8 (k : Int), .int .i8 (s : Int), .int .u8 0, .int .u8 0, .bool true], .bool v3]) (results_cell_tmp Tryd.results40 _ _ (w.heap.size + 1) 36 _ _ _ rfl rfl hMV Tryd.underlying36 rfl Tryd.size_Move) rfl ⟨by rw [hok], hb0⟩
  · go_enter Tryd.func40, Tryd.ntmps40
    go_wp2_with (first
      | ((with_reducible refine wp_load_box rfl _ rfl ?_); refine ⟨_, _, rfl, (by first | assumption | exact hp.alloc _), ?_⟩)
      | ((with_reducible refine wp_store_box rfl _ _ rfl ?_); refine ⟨_, c, rfl, rfl, ⟨_, heap_alloc_new _ _, zero31_sizeC⟩, ?_⟩; intro V hV hq; have hne := hp.lt; have hne1 := hM.lt; replace hp := hV.pos (hp.alloc _) (by omega); replace hM := hV.row (hM.alloc _) (by have := hM.lt; omega); replace hb0 := hV.below (hb0.alloc hb0.size _) hb0.size; clear hV)
      | (go_at_call 64; refine (R1.out _).mono ?_; rintro e u ⟨rfl, hb⟩; replace hp := hp.below hb; replace hM := hM.below hb; replace hb0 := below_next hb0 hb; clear hb; have h78 := hp.cell (i := 78) (by decide); rw [hct, show pk 78 = .u8 from rfl] at h78)
      | (go_at_call 44; refine (goals_any _).mono ?_; rintro e u ⟨rfl, hb⟩; replace hp := hp.below hb; replace hM := hM.below hb; replace hb0 := below_next hb0 hb; clear hb; have h78 := hp.cell (i := 78) (by decide); rw [hct, show pk 78 = .u8 from rfl] at h78)
      | (go_at_call 39; refine (home_any 0 _ (by decide)).mono ?_; rintro e u ⟨rfl, rfl⟩))
    have hG := RowAt.new u #[.int .i64 2, .int .i64 3] 77
    replace hp := hp.alloc (.cells #[.int .i64 2, .int .i64 3] 77)
    replace hM := hM.alloc (.cells #[.int .i64 2, .int .i64 3] 77)
    have hgu := hb0.size
    replace hb0 := hb0.alloc hb0.size (.cells #[.int .i64 2, .int .i64 3] 77)
    have c78 := hp.cell (i := 78) (by decide)
    rw [hct, show pk 78 = .u8 from rfl] at c78
    have g0 := hG.cell 0
    have g1 := hG.cell 1
    simp only [List.getElem?_toArray, List.getElem?_cons_zero, List.getElem?_cons_succ] at g0 g1
    have lp := hp.lt
    have lG := hG.lt
    revert hp hM hb0 c78 g0 g1 lp lG hG
    generalize u.alloc (.cells #[.int .i64 2, .int .i64 3] 77) = u2
    intro hG hp hM hb0 c78 g0 g1 lp lG
    go_quiet ((go_at_call 39; exact quiet_same (home_any 0 _ (by decide))))
    replace hp := hp.drewN nq
    replace hM := hM.drewN nq
    replace hb0 := T.below_drew hb0 nq
    clear c78 g0 g1 lp lG hG
    revert hp hM hb0
    generalize u2.drewN nq = u3
    intro hp hM hb0
    go_wp2_with (first
      | ((with_reducible refine wp_load_box rfl _ rfl ?_); refine ⟨_, _, rfl, (by first | assumption | exact hp.alloc _), ?_⟩)
      | ((with_reducible refine wp_store_box rfl _ _ rfl ?_); refine ⟨_, c, rfl, rfl, ⟨_, heap_alloc_new _ _, zero31_sizeC⟩, ?_⟩; intro V hV hq; have hne := hp.lt; have hne1 := hM.lt; replace hp := hV.pos (hp.alloc _) (by omega); replace hM := hV.row (hM.alloc _) (by have := hM.lt; omega); replace hb0 := hV.below (hb0.alloc hb0.size _) hb0.size; clear hV)
      | ((with_reducible refine wp_store_cell rfl _ _ _ rfl ?_); refine ⟨_, _, _, _, _, rfl, rfl, hq, (by omega), (by first | exact pk_board hk | exact pk_board hs64), Tryd.size_u8, ?_⟩; intro V hV hq2; replace hp := hV.pos hp (by omega); replace hM := hV.row hM (by omega); replace hb0 := hV.below hb0 (by omega); clear hV hq; have hq := hq2; clear hq2)
      | (go_at_call 51; refine (all_any (T.bare c k s) _ hqb).mono ?_; rintro e u4 ⟨rfl, hb⟩; replace hp := hp.below hb; replace hM := hM.below hb; replace hq : PosAt u4 _ (T.bare c k s) := hq.below hb; replace hb0 := below_next hb0 hb; clear hb; have l4 := hp.lt; have h78 := (hp.alloc (.cells #[.int .u64 (U (S.all (T.bare c k s)))] 23)).cell (i := 78) (by decide); rw [hct, show pk 78 = .u8 from rfl] at h78)
      | (go_at_call 62; refine (of_any c _ _ _ hcb).mono ?_; rintro e u5 ⟨rfl, hb⟩; have hN := (RowAt.new _ _ _).below hb; replace hp := (hp.alloc _).below hb; replace hM := (hM.alloc _).below hb; replace hq := (hq.alloc _).below hb; replace hb0 := below_next (hb0.alloc hb0.size _) hb; clear hb))
    have hO := RowAt.new u5 #[.int .u64 (U (S.of c 1 6))] 23
    replace hp := hp.alloc (.cells #[.int .u64 (U (S.of c 1 6))] 23)
    replace hM := hM.alloc (.cells #[.int .u64 (U (S.of c 1 6))] 23)
    replace hq := hq.alloc (.cells #[.int .u64 (U (S.of c 1 6))] 23)
    replace hN := hN.alloc (.cells #[.int .u64 (U (S.of c 1 6))] 23)
    replace hb0 := hb0.alloc hb0.size (.cells #[.int .u64 (U (S.of c 1 6))] 23)
    clear h78
    revert hO hp hM hq hN hb0
    generalize u5.alloc (.cells #[.int .u64 (U (S.of c 1 6))] 23) = u6
    intro hO hp hM hq hN hb0
    refine (all_empty k 2 u4.heap.size (T.emptyB c k s) _ hk (by decide) (fun x hx W hb => may1_any x u4.heap.size _ _ W hx ((hN.below hb).cell 0) rfl)).mono ?_
    rintro e u7 ⟨rfl, hb⟩
    replace hO := hO.below hb
    replace hp := hp.below hb
    replace hM := hM.below hb
    replace hq := hq.below hb
    replace hN := hN.below hb
    replace hb0 := below_next hb0 hb
    clear hb
    cases v1 : (T.seg k 2).all fun x => T.emptyB c k s x.val
    · go_wp2_with (first
        | ((with_reducible refine wp_store_row' rfl _ _ _ rfl ?_); refine ⟨w.heap.size + 1, _, _, rfl, rfl, ⟨_, hM.heap, rfl⟩, Tryd.size_Move, T.move_one _ _ _ _ _, ?_⟩; intro V hV hMV; replace hb0 := hV.below hb0 (Nat.le_succ _)))
      have hok : T.mayOk c 0 1 k s = false := by unfold T.mayOk; rw [show T.kg 0 1 = 2 from rfl, v1]; rfl
      exact bodyPost_ret (v := .tuple #[.agg #[.int .i8 (k : Int), .int .i8 (s : Int), .int .u8 0, .int .u8 0, .bool true], .bool false]) (results_cell_tmp Tryd.results40 _ _ (w.heap.size + 1) 36 _ _ _ rfl rfl hMV Tryd.underlying36 rfl Tryd.size_Move) rfl ⟨by rw [hok], hb0⟩
    · go_wp2_with fail
      refine (all_empty s 3 u4.heap.size (T.emptyB c k s) _ hs64 (by decide) (fun x hx W hb => may1_any x u4.heap.size _ _ W hx ((hN.below hb).cell 0) rfl)).mono ?_
      rintro e u8 ⟨rfl, hb⟩
      replace hO := hO.below hb
      replace hp := hp.below hb
      replace hM := hM.below hb
      replace hq := hq.below hb
      replace hN := hN.below hb
      replace hb0 := below_next hb0 hb
      clear hb
      cases v2 : (T.seg s 3).all fun x => T.emptyB c k s x.val
      · go_wp2_with (first
          | ((with_reducible refine wp_store_row' rfl _ _ _ rfl ?_); refine ⟨w.heap.size + 1, _, _, rfl, rfl, ⟨_, hM.heap, rfl⟩, Tryd.size_Move, T.move_one _ _ _ _ _, ?_⟩; intro V hV hMV; replace hb0 := hV.below hb0 (Nat.le_succ _)))
        have hok : T.mayOk c 0 1 k s = false := by unfold T.mayOk; rw [show T.kg 0 1 = 2 from rfl, show T.rg 0 1 = 3 from rfl, v1, v2]; rfl
        exact bodyPost_ret (v := .tuple #[.agg #[.int .i8 (k : Int), .int .i8 (s : Int), .int .u8 0, .int .u8 0, .bool true], .bool false]) (results_cell_tmp Tryd.results40 _ _ (w.heap.size + 1) 36 _ _ _ rfl rfl hMV Tryd.underlying36 rfl Tryd.size_Move) rfl ⟨by rw [hok], hb0⟩
      · go_wp2_with fail
        refine (all_safe k 2 w.heap.size u5.heap.size u3.heap.size (T.safeB c 0 k s) _ hk (by decide) (fun x _ W hb => may2_any x 0 w.heap.size u5.heap.size u3.heap.size c (T.bare c k s) _ W (by decide) hct hqb (HT.out W (below_next hb0 hb)) (hp.below hb) ((hO.below hb).cell 0) (hq.below hb))).mono ?_
        rintro e u9 ⟨rfl, hb⟩
        replace hO := hO.below hb
        replace hp := hp.below hb
        replace hM := hM.below hb
        replace hq := hq.below hb
        replace hN := hN.below hb
        replace hb0 := below_next hb0 hb
        clear hb
        have hok : T.mayOk c 0 1 k s = ((T.seg k 2).all fun x => T.safeB c 0 k s x.val) := by unfold T.mayOk; rw [show T.kg 0 1 = 2 from rfl, show T.rg 0 1 = 3 from rfl, v1, v2]; rfl
        generalize ((T.seg k 2).all fun x => T.safeB c 0 k s x.val) = v3 at hok ⊢
        go_wp2_with (first
            | ((with_reducible refine wp_store_row' rfl _ _ _ rfl ?_); refine ⟨w.heap.size + 1, _, _, rfl, rfl, ⟨_, hM.heap, rfl⟩, Tryd.size_Move, T.move_one _ _ _ _ _, ?_⟩; intro V hV hMV; replace hb0 := hV.below hb0 (Nat.le_succ _)))
        exact bodyPost_ret (v := .tuple #[.agg #[.int .i8 (k : Int), .int .i8 (s : Int), .int .u8 0, .int .u8 0, .bool true], .bool v3]) (results_cell_tmp Tryd.results40 _ _ (w.heap.size + 1) 36 _ _ _ rfl rfl hMV Tryd.underlying36 rfl Tryd.size_Move) rfl ⟨by rw [hok], hb0⟩
  · go_enter Tryd.func40, Tryd.ntmps40
    go_wp2_with (first
      | ((with_reducible refine wp_load_box rfl _ rfl ?_); refine ⟨_, _, rfl, (by first | assumption | exact hp.alloc _), ?_⟩)
      | ((with_reducible refine wp_store_box rfl _ _ rfl ?_); refine ⟨_, c, rfl, rfl, ⟨_, heap_alloc_new _ _, zero31_sizeC⟩, ?_⟩; intro V hV hq; have hne := hp.lt; have hne1 := hM.lt; replace hp := hV.pos (hp.alloc _) (by omega); replace hM := hV.row (hM.alloc _) (by have := hM.lt; omega); replace hb0 := hV.below (hb0.alloc hb0.size _) hb0.size; clear hV)
      | (go_at_call 64; refine (R1.out _).mono ?_; rintro e u ⟨rfl, hb⟩; replace hp := hp.below hb; replace hM := hM.below hb; replace hb0 := below_next hb0 hb; clear hb; have h78 := hp.cell (i := 78) (by decide); rw [hct, show pk 78 = .u8 from rfl] at h78)
      | (go_at_call 44; refine (goals_any _).mono ?_; rintro e u ⟨rfl, hb⟩; replace hp := hp.below hb; replace hM := hM.below hb; replace hb0 := below_next hb0 hb; clear hb; have h78 := hp.cell (i := 78) (by decide); rw [hct, show pk 78 = .u8 from rfl] at h78)
      | (go_at_call 39; refine (home_any 1 _ (by decide)).mono ?_; rintro e u ⟨rfl, rfl⟩))
    have hG := RowAt.new u #[.int .i64 6, .int .i64 5] 77
    replace hp := hp.alloc (.cells #[.int .i64 6, .int .i64 5] 77)
    replace hM := hM.alloc (.cells #[.int .i64 6, .int .i64 5] 77)
    have hgu := hb0.size
    replace hb0 := hb0.alloc hb0.size (.cells #[.int .i64 6, .int .i64 5] 77)
    have c78 := hp.cell (i := 78) (by decide)
    rw [hct, show pk 78 = .u8 from rfl] at c78
    have g0 := hG.cell 0
    have g1 := hG.cell 1
    simp only [List.getElem?_toArray, List.getElem?_cons_zero, List.getElem?_cons_succ] at g0 g1
    have lp := hp.lt
    have lG := hG.lt
    revert hp hM hb0 c78 g0 g1 lp lG hG
    generalize u.alloc (.cells #[.int .i64 6, .int .i64 5] 77) = u2
    intro hG hp hM hb0 c78 g0 g1 lp lG
    go_quiet ((go_at_call 39; exact quiet_same (home_any 1 _ (by decide))))
    replace hp := hp.drewN nq
    replace hM := hM.drewN nq
    replace hb0 := T.below_drew hb0 nq
    clear c78 g0 g1 lp lG hG
    revert hp hM hb0
    generalize u2.drewN nq = u3
    intro hp hM hb0
    go_wp2_with (first
      | ((with_reducible refine wp_load_box rfl _ rfl ?_); refine ⟨_, _, rfl, (by first | assumption | exact hp.alloc _), ?_⟩)
      | ((with_reducible refine wp_store_box rfl _ _ rfl ?_); refine ⟨_, c, rfl, rfl, ⟨_, heap_alloc_new _ _, zero31_sizeC⟩, ?_⟩; intro V hV hq; have hne := hp.lt; have hne1 := hM.lt; replace hp := hV.pos (hp.alloc _) (by omega); replace hM := hV.row (hM.alloc _) (by have := hM.lt; omega); replace hb0 := hV.below (hb0.alloc hb0.size _) hb0.size; clear hV)
      | ((with_reducible refine wp_store_cell rfl _ _ _ rfl ?_); refine ⟨_, _, _, _, _, rfl, rfl, hq, (by omega), (by first | exact pk_board hk | exact pk_board hs64), Tryd.size_u8, ?_⟩; intro V hV hq2; replace hp := hV.pos hp (by omega); replace hM := hV.row hM (by omega); replace hb0 := hV.below hb0 (by omega); clear hV hq; have hq := hq2; clear hq2)
      | (go_at_call 51; refine (all_any (T.bare c k s) _ hqb).mono ?_; rintro e u4 ⟨rfl, hb⟩; replace hp := hp.below hb; replace hM := hM.below hb; replace hq : PosAt u4 _ (T.bare c k s) := hq.below hb; replace hb0 := below_next hb0 hb; clear hb; have l4 := hp.lt; have h78 := (hp.alloc (.cells #[.int .u64 (U (S.all (T.bare c k s)))] 23)).cell (i := 78) (by decide); rw [hct, show pk 78 = .u8 from rfl] at h78)
      | (go_at_call 62; refine (of_any c _ _ _ hcb).mono ?_; rintro e u5 ⟨rfl, hb⟩; have hN := (RowAt.new _ _ _).below hb; replace hp := (hp.alloc _).below hb; replace hM := (hM.alloc _).below hb; replace hq := (hq.alloc _).below hb; replace hb0 := below_next (hb0.alloc hb0.size _) hb; clear hb))
    have hO := RowAt.new u5 #[.int .u64 (U (S.of c 0 6))] 23
    replace hp := hp.alloc (.cells #[.int .u64 (U (S.of c 0 6))] 23)
    replace hM := hM.alloc (.cells #[.int .u64 (U (S.of c 0 6))] 23)
    replace hq := hq.alloc (.cells #[.int .u64 (U (S.of c 0 6))] 23)
    replace hN := hN.alloc (.cells #[.int .u64 (U (S.of c 0 6))] 23)
    replace hb0 := hb0.alloc hb0.size (.cells #[.int .u64 (U (S.of c 0 6))] 23)
    clear h78
    revert hO hp hM hq hN hb0
    generalize u5.alloc (.cells #[.int .u64 (U (S.of c 0 6))] 23) = u6
    intro hO hp hM hq hN hb0
    refine (all_empty k 62 u4.heap.size (T.emptyB c k s) _ hk (by decide) (fun x hx W hb => may1_any x u4.heap.size _ _ W hx ((hN.below hb).cell 0) rfl)).mono ?_
    rintro e u7 ⟨rfl, hb⟩
    replace hO := hO.below hb
    replace hp := hp.below hb
    replace hM := hM.below hb
    replace hq := hq.below hb
    replace hN := hN.below hb
    replace hb0 := below_next hb0 hb
    clear hb
    cases v1 : (T.seg k 62).all fun x => T.emptyB c k s x.val
    · go_wp2_with (first
        | ((with_reducible refine wp_store_row' rfl _ _ _ rfl ?_); refine ⟨w.heap.size + 1, _, _, rfl, rfl, ⟨_, hM.heap, rfl⟩, Tryd.size_Move, T.move_one _ _ _ _ _, ?_⟩; intro V hV hMV; replace hb0 := hV.below hb0 (Nat.le_succ _)))
      have hok : T.mayOk c 1 0 k s = false := by unfold T.mayOk; rw [show T.kg 1 0 = 62 from rfl, v1]; rfl
      exact bodyPost_ret (v := .tuple #[.agg #[.int .i8 (k : Int), .int .i8 (s : Int), .int .u8 0, .int .u8 0, .bool true], .bool false]) (results_cell_tmp Tryd.results40 _ _ (w.heap.size + 1) 36 _ _ _ rfl rfl hMV Tryd.underlying36 rfl Tryd.size_Move) rfl ⟨by rw [hok], hb0⟩
    · go_wp2_with fail
      refine (all_empty s 61 u4.heap.size (T.emptyB c k s) _ hs64 (by decide) (fun x hx W hb => may1_any x u4.heap.size _ _ W hx ((hN.below hb).cell 0) rfl)).mono ?_
      rintro e u8 ⟨rfl, hb⟩
      replace hO := hO.below hb
      replace hp := hp.below hb
      replace hM := hM.below hb
      replace hq := hq.below hb
      replace hN := hN.below hb
      replace hb0 := below_next hb0 hb
      clear hb
      cases v2 : (T.seg s 61).all fun x => T.emptyB c k s x.val
      · go_wp2_with (first
          | ((with_reducible refine wp_store_row' rfl _ _ _ rfl ?_); refine ⟨w.heap.size + 1, _, _, rfl, rfl, ⟨_, hM.heap, rfl⟩, Tryd.size_Move, T.move_one _ _ _ _ _, ?_⟩; intro V hV hMV; replace hb0 := hV.below hb0 (Nat.le_succ _)))
        have hok : T.mayOk c 1 0 k s = false := by unfold T.mayOk; rw [show T.kg 1 0 = 62 from rfl, show T.rg 1 0 = 61 from rfl, v1, v2]; rfl
        exact bodyPost_ret (v := .tuple #[.agg #[.int .i8 (k : Int), .int .i8 (s : Int), .int .u8 0, .int .u8 0, .bool true], .bool false]) (results_cell_tmp Tryd.results40 _ _ (w.heap.size + 1) 36 _ _ _ rfl rfl hMV Tryd.underlying36 rfl Tryd.size_Move) rfl ⟨by rw [hok], hb0⟩
      · go_wp2_with fail
        refine (all_safe k 62 w.heap.size u5.heap.size u3.heap.size (T.safeB c 1 k s) _ hk (by decide) (fun x _ W hb => may2_any x 1 w.heap.size u5.heap.size u3.heap.size c (T.bare c k s) _ W (by decide) hct hqb (HT.out W (below_next hb0 hb)) (hp.below hb) ((hO.below hb).cell 0) (hq.below hb))).mono ?_
        rintro e u9 ⟨rfl, hb⟩
        replace hO := hO.below hb
        replace hp := hp.below hb
        replace hM := hM.below hb
        replace hq := hq.below hb
        replace hN := hN.below hb
        replace hb0 := below_next hb0 hb
        clear hb
        have hok : T.mayOk c 1 0 k s = ((T.seg k 62).all fun x => T.safeB c 1 k s x.val) := by unfold T.mayOk; rw [show T.kg 1 0 = 62 from rfl, show T.rg 1 0 = 61 from rfl, v1, v2]; rfl
        generalize ((T.seg k 62).all fun x => T.safeB c 1 k s x.val) = v3 at hok ⊢
        go_wp2_with (first
            | ((with_reducible refine wp_store_row' rfl _ _ _ rfl ?_); refine ⟨w.heap.size + 1, _, _, rfl, rfl, ⟨_, hM.heap, rfl⟩, Tryd.size_Move, T.move_one _ _ _ _ _, ?_⟩; intro V hV hMV; replace hb0 := hV.below hb0 (Nat.le_succ _)))
        exact bodyPost_ret (v := .tuple #[.agg #[.int .i8 (k : Int), .int .i8 (s : Int), .int .u8 0, .int .u8 0, .bool true], .bool v3]) (results_cell_tmp Tryd.results40 _ _ (w.heap.size + 1) 36 _ _ _ rfl rfl hMV Tryd.underlying36 rfl Tryd.size_Move) rfl ⟨by rw [hok], hb0⟩
  · go_enter Tryd.func40, Tryd.ntmps40
    go_wp2_with (first
      | ((with_reducible refine wp_load_box rfl _ rfl ?_); refine ⟨_, _, rfl, (by first | assumption | exact hp.alloc _), ?_⟩)
      | ((with_reducible refine wp_store_box rfl _ _ rfl ?_); refine ⟨_, c, rfl, rfl, ⟨_, heap_alloc_new _ _, zero31_sizeC⟩, ?_⟩; intro V hV hq; have hne := hp.lt; have hne1 := hM.lt; replace hp := hV.pos (hp.alloc _) (by omega); replace hM := hV.row (hM.alloc _) (by have := hM.lt; omega); replace hb0 := hV.below (hb0.alloc hb0.size _) hb0.size; clear hV)
      | (go_at_call 64; refine (R1.out _).mono ?_; rintro e u ⟨rfl, hb⟩; replace hp := hp.below hb; replace hM := hM.below hb; replace hb0 := below_next hb0 hb; clear hb; have h78 := hp.cell (i := 78) (by decide); rw [hct, show pk 78 = .u8 from rfl] at h78)
      | (go_at_call 44; refine (goals_any _).mono ?_; rintro e u ⟨rfl, hb⟩; replace hp := hp.below hb; replace hM := hM.below hb; replace hb0 := below_next hb0 hb; clear hb; have h78 := hp.cell (i := 78) (by decide); rw [hct, show pk 78 = .u8 from rfl] at h78)
      | (go_at_call 39; refine (home_any 1 _ (by decide)).mono ?_; rintro e u ⟨rfl, rfl⟩))
    have hG := RowAt.new u #[.int .i64 2, .int .i64 3] 77
    replace hp := hp.alloc (.cells #[.int .i64 2, .int .i64 3] 77)
    replace hM := hM.alloc (.cells #[.int .i64 2, .int .i64 3] 77)
    have hgu := hb0.size
    replace hb0 := hb0.alloc hb0.size (.cells #[.int .i64 2, .int .i64 3] 77)
    have c78 := hp.cell (i := 78) (by decide)
    rw [hct, show pk 78 = .u8 from rfl] at c78
    have g0 := hG.cell 0
    have g1 := hG.cell 1
    simp only [List.getElem?_toArray, List.getElem?_cons_zero, List.getElem?_cons_succ] at g0 g1
    have lp := hp.lt
    have lG := hG.lt
    revert hp hM hb0 c78 g0 g1 lp lG hG
    generalize u.alloc (.cells #[.int .i64 2, .int .i64 3] 77) = u2
    intro hG hp hM hb0 c78 g0 g1 lp lG
    go_quiet ((go_at_call 39; exact quiet_same (home_any 1 _ (by decide))))
    replace hp := hp.drewN nq
    replace hM := hM.drewN nq
    replace hb0 := T.below_drew hb0 nq
    clear c78 g0 g1 lp lG hG
    revert hp hM hb0
    generalize u2.drewN nq = u3
    intro hp hM hb0
    go_wp2_with (first
      | ((with_reducible refine wp_load_box rfl _ rfl ?_); refine ⟨_, _, rfl, (by first | assumption | exact hp.alloc _), ?_⟩)
      | ((with_reducible refine wp_store_box rfl _ _ rfl ?_); refine ⟨_, c, rfl, rfl, ⟨_, heap_alloc_new _ _, zero31_sizeC⟩, ?_⟩; intro V hV hq; have hne := hp.lt; have hne1 := hM.lt; replace hp := hV.pos (hp.alloc _) (by omega); replace hM := hV.row (hM.alloc _) (by have := hM.lt; omega); replace hb0 := hV.below (hb0.alloc hb0.size _) hb0.size; clear hV)
      | ((with_reducible refine wp_store_cell rfl _ _ _ rfl ?_); refine ⟨_, _, _, _, _, rfl, rfl, hq, (by omega), (by first | exact pk_board hk | exact pk_board hs64), Tryd.size_u8, ?_⟩; intro V hV hq2; replace hp := hV.pos hp (by omega); replace hM := hV.row hM (by omega); replace hb0 := hV.below hb0 (by omega); clear hV hq; have hq := hq2; clear hq2)
      | (go_at_call 51; refine (all_any (T.bare c k s) _ hqb).mono ?_; rintro e u4 ⟨rfl, hb⟩; replace hp := hp.below hb; replace hM := hM.below hb; replace hq : PosAt u4 _ (T.bare c k s) := hq.below hb; replace hb0 := below_next hb0 hb; clear hb; have l4 := hp.lt; have h78 := (hp.alloc (.cells #[.int .u64 (U (S.all (T.bare c k s)))] 23)).cell (i := 78) (by decide); rw [hct, show pk 78 = .u8 from rfl] at h78)
      | (go_at_call 62; refine (of_any c _ _ _ hcb).mono ?_; rintro e u5 ⟨rfl, hb⟩; have hN := (RowAt.new _ _ _).below hb; replace hp := (hp.alloc _).below hb; replace hM := (hM.alloc _).below hb; replace hq := (hq.alloc _).below hb; replace hb0 := below_next (hb0.alloc hb0.size _) hb; clear hb))
    have hO := RowAt.new u5 #[.int .u64 (U (S.of c 0 6))] 23
    replace hp := hp.alloc (.cells #[.int .u64 (U (S.of c 0 6))] 23)
    replace hM := hM.alloc (.cells #[.int .u64 (U (S.of c 0 6))] 23)
    replace hq := hq.alloc (.cells #[.int .u64 (U (S.of c 0 6))] 23)
    replace hN := hN.alloc (.cells #[.int .u64 (U (S.of c 0 6))] 23)
    replace hb0 := hb0.alloc hb0.size (.cells #[.int .u64 (U (S.of c 0 6))] 23)
    clear h78
    revert hO hp hM hq hN hb0
    generalize u5.alloc (.cells #[.int .u64 (U (S.of c 0 6))] 23) = u6
    intro hO hp hM hq hN hb0
    refine (all_empty k 58 u4.heap.size (T.emptyB c k s) _ hk (by decide) (fun x hx W hb => may1_any x u4.heap.size _ _ W hx ((hN.below hb).cell 0) rfl)).mono ?_
    rintro e u7 ⟨rfl, hb⟩
    replace hO := hO.below hb
    replace hp := hp.below hb
    replace hM := hM.below hb
    replace hq := hq.below hb
    replace hN := hN.below hb
    replace hb0 := below_next hb0 hb
    clear hb
    cases v1 : (T.seg k 58).all fun x => T.emptyB c k s x.val
    · go_wp2_with (first
        | ((with_reducible refine wp_store_row' rfl _ _ _ rfl ?_); refine ⟨w.heap.size + 1, _, _, rfl, rfl, ⟨_, hM.heap, rfl⟩, Tryd.size_Move, T.move_one _ _ _ _ _, ?_⟩; intro V hV hMV; replace hb0 := hV.below hb0 (Nat.le_succ _)))
      have hok : T.mayOk c 1 1 k s = false := by unfold T.mayOk; rw [show T.kg 1 1 = 58 from rfl, v1]; rfl
      exact bodyPost_ret (v := .tuple #[.agg #[.int .i8 (k : Int), .int .i8 (s : Int), .int .u8 0, .int .u8 0, .bool true], .bool false]) (results_cell_tmp Tryd.results40 _ _ (w.heap.size + 1) 36 _ _ _ rfl rfl hMV Tryd.underlying36 rfl Tryd.size_Move) rfl ⟨by rw [hok], hb0⟩
    · go_wp2_with fail
      refine (all_empty s 59 u4.heap.size (T.emptyB c k s) _ hs64 (by decide) (fun x hx W hb => may1_any x u4.heap.size _ _ W hx ((hN.below hb).cell 0) rfl)).mono ?_
      rintro e u8 ⟨rfl, hb⟩
      replace hO := hO.below hb
      replace hp := hp.below hb
      replace hM := hM.below hb
      replace hq := hq.below hb
      replace hN := hN.below hb
      replace hb0 := below_next hb0 hb
      clear hb
      cases v2 : (T.seg s 59).all fun x => T.emptyB c k s x.val
      · go_wp2_with (first
          | ((with_reducible refine wp_store_row' rfl _ _ _ rfl ?_); refine ⟨w.heap.size + 1, _, _, rfl, rfl, ⟨_, hM.heap, rfl⟩, Tryd.size_Move, T.move_one _ _ _ _ _, ?_⟩; intro V hV hMV; replace hb0 := hV.below hb0 (Nat.le_succ _)))
        have hok : T.mayOk c 1 1 k s = false := by unfold T.mayOk; rw [show T.kg 1 1 = 58 from rfl, show T.rg 1 1 = 59 from rfl, v1, v2]; rfl
        exact bodyPost_ret (v := .tuple #[.agg #[.int .i8 (k : Int), .int .i8 (s : Int), .int .u8 0, .int .u8 0, .bool true], .bool false]) (results_cell_tmp Tryd.results40 _ _ (w.heap.size + 1) 36 _ _ _ rfl rfl hMV Tryd.underlying36 rfl Tryd.size_Move) rfl ⟨by rw [hok], hb0⟩
      · go_wp2_with fail
        refine (all_safe k 58 w.heap.size u5.heap.size u3.heap.size (T.safeB c 1 k s) _ hk (by decide) (fun x _ W hb => may2_any x 1 w.heap.size u5.heap.size u3.heap.size c (T.bare c k s) _ W (by decide) hct hqb (HT.out W (below_next hb0 hb)) (hp.below hb) ((hO.below hb).cell 0) (hq.below hb))).mono ?_
        rintro e u9 ⟨rfl, hb⟩
        replace hO := hO.below hb
        replace hp := hp.below hb
        replace hM := hM.below hb
        replace hq := hq.below hb
        replace hN := hN.below hb
        replace hb0 := below_next hb0 hb
        clear hb
        have hok : T.mayOk c 1 1 k s = ((T.seg k 58).all fun x => T.safeB c 1 k s x.val) := by unfold T.mayOk; rw [show T.kg 1 1 = 58 from rfl, show T.rg 1 1 = 59 from rfl, v1, v2]; rfl
        generalize ((T.seg k 58).all fun x => T.safeB c 1 k s x.val) = v3 at hok ⊢
        go_wp2_with (first
            | ((with_reducible refine wp_store_row' rfl _ _ _ rfl ?_); refine ⟨w.heap.size + 1, _, _, rfl, rfl, ⟨_, hM.heap, rfl⟩, Tryd.size_Move, T.move_one _ _ _ _ _, ?_⟩; intro V hV hMV; replace hb0 := hV.below hb0 (Nat.le_succ _)))
        exact bodyPost_ret (v := .tuple #[.agg #[.int .i8 (k : Int), .int .i8 (s : Int), .int .u8 0, .int .u8 0, .bool true], .bool v3]) (results_cell_tmp Tryd.results40 _ _ (w.heap.size + 1) 36 _ _ _ rfl rfl hMV Tryd.underlying36 rfl Tryd.size_Move) rfl ⟨by rw [hok], hb0⟩

end Go.Proofs.YtnkkhdcjbjiimaaDoor
