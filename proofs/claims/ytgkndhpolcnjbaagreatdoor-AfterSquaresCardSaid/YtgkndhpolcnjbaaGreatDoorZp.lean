/- Several texts in one: Start, StartB, StartC, AfL. -/
import Derived.Deep.RegionWith
import Derived.Test.YtgkndhpolcnjbaaGreatDoorZj
namespace Go.Proofs.YtgkndhpolcnjbaaGreatDoor
open Go.RowKit Go.Sort
attribute [local go_sem] Oper.semAt_some
set_option maxRecDepth 100000 in
theorem chess_any (w : World) : Calls Tryz.prog 120 #[] w fun e w' => e = .returned (.agg #[.int .u8 4, .int .u8 2, .int .u8 3, .int .u8 5, .int .u8 6, .int .u8 3, .int .u8 2, .int .u8 4]) ∧ Below w.heap.size w w' := by
  go_enter Tryz.func120, Tryz.ntmps120
  go_wp2
  have hR := RowAt.new w #[.int .u8 4, .int .u8 2, .int .u8 3, .int .u8 5, .int .u8 6, .int .u8 3, .int .u8 2, .int .u8 4] 151
  exact bodyPost_ret (v := .agg #[.int .u8 4, .int .u8 2, .int .u8 3, .int .u8 5, .int .u8 6, .int .u8 3, .int .u8 2, .int .u8 4]) (results_cell_row Tryz.results120 _ _ w.heap.size 151 _ (0, 0) _ rfl hR.heap Tryz.underlying151 rfl (by kernel_rfl)) rfl ⟨rfl, (Below.refl _ _).alloc (Nat.le_refl _) _⟩
set_option maxRecDepth 100000 in
theorem black_any (k : Int) (w : World) (h0 : 0 ≤ k) (h1 : k ≤ 6) : Calls Tryz.prog 192 #[.int .u8 k] w fun e w' => e = .returned (.int .u8 (8 + k)) ∧ w = w' := by
  have hw : IntKind.u8.wrap (8 + k) = 8 + k := by rw [IntKind.wrap_u8]; omega
  go_enter Tryz.func192, Tryz.ntmps192
  go_wp2
  go_ret
  exact ⟨rfl, rfl⟩
namespace V
def castles (v : Int) : Bool := decide (v < 9) && (v != 4 && v != 8)
/-- A position of a variant without pieces. -/
def none' (v : Int) : Nat → Int := fun i => if i = 0 then v else if i = 79 then -1 else if i = 80 then -1 else if i = 81 then -1 else if i = 82 then -1 else if i = 83 then -1 else if i = 87 then 1 else 0
/-- A file of the home ranks, put on. -/
def file (c : Nat → Int) (n : Nat) (k : Int) : Nat → Int := upd (upd (upd (upd c (1 + n) k) (9 + n) 1) (57 + n) (8 + k)) (49 + n) 9
def rooks (c : Nat → Int) (n : Nat) : Nat → Int := if c 80 < 0 then upd (upd c 80 n) 82 n else upd (upd c 79 n) 81 n
def bothTo (v : Int) (l : Nat → Int) : Nat → Nat → Int
  | 0 => none' v
  | n + 1 => if castles v = true ∧ l n = 4 then rooks (file (bothTo v l n) n (l n)) n else file (bothTo v l n) n (l n)
end V
set_option maxRecDepth 100000 in
set_option maxHeartbeats 1000000 in
theorem rcastles_any (v : Nat) (w : World) :
    Calls Tryz.prog 108 #[.int .u8 (v : Int)] w fun e w' => e = .returned (.bool (V.castles v)) ∧ Below w.heap.size w w' := by
  have hv : ∃ s a b c d e l, V.of v = #[.string s, .bool a, .bool b, .bool c, .bool d, .bool e, .int .u8 l] ∧ V.castles v = c := by
    by_cases h9 : v < 9
    · match v, h9 with
      | 0, _ | 1, _ | 2, _ | 3, _ | 4, _ | 5, _ | 6, _ | 7, _ | 8, _ => exact ⟨_, _, _, _, _, _, _, rfl, rfl⟩
    · refine ⟨_, _, _, _, _, _, _, (by unfold V.of; split <;> first | omega | rfl), ?_⟩ <;> (unfold V.castles; rw [decide_eq_false (by omega)]; rfl)
  obtain ⟨s, a, b, c, d, e, l, hv, r0⟩ := hv
  have hk := fun w => of_k v w
  rw [hv] at hk
  rw [r0]
  clear hv r0
  have H := Lib.hid hk
  clear hk
  have hfd : ∀ w, (Instr.field 178 (.agg #[.string s, .bool a, .bool b, .bool c, .bool d, .bool e, .int .u8 l]) 2).run Tryz.prog w = .ok (.bool c) w := fun _ => by kernel_rfl
  go_enter Tryz.func108, Tryz.ntmps108
  go_wp2_with (go_at_call 148; refine (H.out _).mono ?_; rintro e w1 ⟨rfl, hb1⟩)
  go_ret
  exact ⟨rfl, hb1⟩
set_option maxRecDepth 100000 in
set_option maxHeartbeats 1000000 in
theorem none_any (v : Int) (w : World) : Calls Tryz.prog 191 #[.int .u8 v] w fun e w' => e = .returned (.agg (posC (V.none' v))) ∧ Below w.heap.size w w' := by
  go_enter Tryz.func191, Tryz.ntmps191
  go_wp2_with (refine wp_store_box rfl _ _ rfl ⟨w.heap.size, V.none' v, rfl, (by kernel_rfl), ⟨_, heap_alloc_new _ _, (by kernel_rfl)⟩, ?_⟩; intro W hP hq)
  exact bodyPost_ret (v := .agg (posC (V.none' v))) (results_cell_row Tryz.results191 _ _ w.heap.size 31 _ (0, 0) _ rfl hq.heap Tryz.underlying31 rfl (posC_info _)) rfl ⟨rfl, hP.below ((Below.refl _ _).alloc (Nat.le_refl _) _) (Nat.le_refl _)⟩
end Go.Proofs.YtgkndhpolcnjbaaGreatDoor
namespace Go.Proofs.YtgkndhpolcnjbaaGreatDoor
open Go.RowKit Go.Sort
attribute [local go_sem] Oper.semAt_some
theorem V.bothTo_succ (v : Int) (l : Nat → Int) (n : Nat) : V.bothTo v l (n + 1) = if V.castles v = true ∧ l n = 4 then V.rooks (V.file (V.bothTo v l n) n (l n)) n else V.file (V.bothTo v l n) n (l n) := rfl
def V.row8 (l : Nat → Int) : Array Value := #[.int .u8 (l 0), .int .u8 (l 1), .int .u8 (l 2), .int .u8 (l 3), .int .u8 (l 4), .int .u8 (l 5), .int .u8 (l 6), .int .u8 (l 7)]
theorem V.row8_at (l : Nat → Int) (n : Nat) (h : n < 8) : (V.row8 l)[n]? = some (.int .u8 (l n)) := by
  rcases (show n = 0 ∨ n = 1 ∨ n = 2 ∨ n = 3 ∨ n = 4 ∨ n = 5 ∨ n = 6 ∨ n = 7 by omega) with rfl | rfl | rfl | rfl | rfl | rfl | rfl | rfl <;> rfl
theorem V.file_eq (c : Nat → Int) (n : Nat) (k : Int) : V.file c n k = upd (upd (upd (upd c (1 + n) k) (1 + (8 + n)) 1) (1 + (56 + n)) (8 + k)) (1 + (48 + n)) 9 := by
  unfold V.file
  rw [show 1 + (8 + n) = 9 + n by omega, show 1 + (56 + n) = 57 + n by omega, show 1 + (48 + n) = 49 + n by omega]
theorem Tryz.size_i8S : (Tryz.prog.info? 26).map (·.size) = some 1 := by kernel_rfl
theorem V.row8_index (l : Nat → Int) (k : Nat) (hk : k < 8) (w : World) : (Instr.index 151 (.agg (V.row8 l)) (.int .i64 (k : Int))).run Tryz.prog w = .ok (.int .u8 (l k)) w := by
  have h2 : ((k : Int) < 8) := by omega
  have e := V.row8_at l k hk
  simp [Instr.index, run_underlying Tryz.underlying151, asIntOf, go_sem, part, e, hk]
set_option maxRecDepth 100000 in
set_option maxHeartbeats 8000000 in
theorem both_any (v : Nat) (l : Nat → Int) (w : World) (hl : ∀ n, n < 8 → 0 ≤ l n ∧ l n ≤ 6) :
    Calls Tryz.prog 119 #[.int .u8 (v : Int), .agg (V.row8 l)] w fun e w' => e = .returned (.agg (posC (V.bothTo v l 8))) ∧ Below w.heap.size w w' := by
  have hr0 := RowAt.new w (V.row8 l) 151
  have hb0 : Below w.heap.size w (w.alloc (.cells (V.row8 l) 151)) := (Below.refl _ _).alloc (Nat.le_refl _) _
  have hb1 := hb0.alloc (by simp) (.cells Tryz.zeroCells31 31)
  replace hr0 := hr0.alloc (.cells Tryz.zeroCells31 31)
  have hz := heap_alloc_new (w.alloc (.cells (V.row8 l) 151)) (.cells Tryz.zeroCells31 31)
  rw [World.size_alloc] at hz
  obtain ⟨W0, hW0⟩ : ∃ W0, w.alloc (.cells (V.row8 l) 151) = W0 := ⟨_, rfl⟩
  rw [hW0] at hr0 hb1 hz
  have hs0 : W0.heap.size = w.heap.size + 1 := by rw [← hW0]; simp
  obtain ⟨W, hW⟩ : ∃ W, W0.alloc (.cells Tryz.zeroCells31 31) = W := ⟨_, rfl⟩
  rw [hW] at hr0 hb1 hz
  have hs : W.heap.size = w.heap.size + 2 := by rw [← hW]; simp; omega
  have HL := Lib.hid hl
  have HR := Lib.hid hr0
  have HB := Lib.hid hb1
  have HZ := Lib.hid hz
  clear hl hr0 hb0 hb1 hz
  go_enter Tryz.func119, Tryz.ntmps119
  go_wp2_with (first
    | (go_at_call 191; refine (none_any _ _).mono ?_; rintro e w1 ⟨rfl, hb2⟩; have HB2 := Lib.hid (below_next HB.out hb2); have HR2 := Lib.hid (HR.out.below hb2); have HZ2 := Lib.hid ((hb2.block _ (by omega)).trans HZ.out); have hs2 := hb2.size)
    | ((with_reducible refine wp_store_box rfl _ _ rfl ?_); refine ⟨_, _, rfl, rfl, ⟨_, heap_alloc_new _ _, (by kernel_rfl)⟩, ?_⟩; intro W3 hP3 hq; have HQ := Lib.hid hq; have HB3 := Lib.hid (hP3.below (HB2.out.alloc HB2.out.size _) (by omega)); have HR3 := Lib.hid (hP3.row (HR2.out.alloc _) (by omega)); have HZ3 := Lib.hid ((hP3.block _ (by omega)).trans ((Below.heap_alloc _ _ _ (by omega)).trans HZ2.out)); clear hq hP3)
    | ((with_reducible refine wp_load_row' rfl 151 _ rfl Tryz.underlying151 rfl ?_); refine ⟨w.heap.size, 151, V.row8 l, rfl, HR3.out, (by kernel_rfl), ?_⟩))
  obtain ⟨g, hg⟩ : ∃ g, w1.heap.size = g := ⟨_, rfl⟩
  rw [hg] at HQ hs2 ⊢
  clear hg hb2
  go_loopw [12] (fun i wr => ∃ n : Nat, n ≤ 8 ∧ i = .int .i64 (n : Int) ∧ PosAt wr g (V.bothTo v l n) ∧ wr.heap[w.heap.size + 1]? = some (.cells Tryz.zeroCells31 31 (0, 0)) ∧ Below w.heap.size w wr) (fun i _ => 8 - (intOf i).toNat)
  case atStart => exact ⟨0, Nat.zero_le _, rfl, HQ.out, HZ3.out, HB3.out⟩
  case round =>
    obtain ⟨n, hn, rfl, hq, hz, hbr⟩ := hrel
    by_cases hlt : n < 8
    · have hi := V.row8_index l n hlt
      obtain ⟨k0, k1⟩ := HL.out n hlt
      have hst := V.bothTo_succ v l n
      have hsz := hq.lt
      obtain ⟨c, hc⟩ : ∃ c, V.bothTo v l n = c := ⟨_, rfl⟩
      rw [hc] at hst hq
      obtain ⟨k, hk⟩ : ∃ k, l n = k := ⟨_, rfl⟩
      rw [hk] at hi hst k0 k1
      have HST := Lib.hid hst
      have HQr := Lib.hid (And.intro hq (And.intro hz hbr))
      have HH := Lib.hid (And.intro hn hlt)
      clear hq hz hbr hc hk hst hn
      go_wp2_with (first
        | ((with_reducible refine wp_store_cell rfl _ _ _ rfl ?_); refine ⟨_, _, _, _, _, rfl, rfl, HQr.out.1, (by omega), (by first | rfl | exact pk_board (by omega) | (unfold pk; rw [if_pos (by omega)])), Tryz.size_u8, ?_⟩; intro V1 hV1 hq1)
        | ((with_reducible refine wp_store_cell rfl _ _ _ rfl ?_); refine ⟨_, _, _, _, _, rfl, rfl, hq1, (by omega), (by first | rfl | exact pk_board (by omega) | (unfold pk; rw [if_pos (by omega)])), Tryz.size_u8, ?_⟩; intro V2 hV2 hq2))
      have hcA := hq2.cell (i := 1 + (56 + n)) (by omega)
      have hcB := hq2.cell (i := 1 + (48 + n)) (by omega)
      rw [show pk (1 + (56 + n)) = .u8 by unfold pk; rw [if_pos (by omega)]] at hcA
      rw [show pk (1 + (48 + n)) = .u8 by unfold pk; rw [if_pos (by omega)]] at hcB
      have hfA := hq2.frozen (1 + (56 + n))
      have hfB := hq2.frozen (1 + (48 + n))
      have hw1 : wrap64 (56 + (n : Int)) = 56 + (n : Int) := IntWalk.wrap64_in _ ⟨by omega, by omega⟩
      have hw2 : wrap64 (48 + (n : Int)) = 48 + (n : Int) := IntWalk.wrap64_in _ ⟨by omega, by omega⟩
      have hx1 : 0 ≤ (56 : Int) + (n : Int) ∧ (56 : Int) + (n : Int) < 64 := by omega
      have hx2 : 0 ≤ (48 : Int) + (n : Int) ∧ (48 : Int) + (n : Int) < 64 := by omega
      have hi1 : IntKind.i64.wrap (56 + (n : Int)) = 56 + (n : Int) := by unfold IntKind.wrap; simp [IntKind.bits, IntKind.signed]; omega
      have hi2 : IntKind.i64.wrap (48 + (n : Int)) = 48 + (n : Int) := by unfold IntKind.wrap; simp [IntKind.bits, IntKind.signed]; omega
      have hj1 : ((56 : Int) + (n : Int)).toNat = 56 + n := by omega
      have hj2 : ((48 : Int) + (n : Int)).toNat = 48 + n := by omega
      have hne : (48 + n = 56 + n) = False := by simp
      have HV := Lib.hid (And.intro hV1 (And.intro hV2 hq2))
      clear hV1 hV2 hq2 hq1
      go_region_with (first
        | (go_at_call 192; refine (black_any k _ k0 k1).mono ?_; rintro e w' ⟨rfl, rfl⟩)
        | (go_at_call 192; refine (black_any 1 _ (by decide) (by decide)).mono ?_; rintro e w' ⟨rfl, rfl⟩))
      have hpA : pk (1 + (56 + n)) = .u8 := by unfold pk; rw [if_pos (by omega)]
      have hpB : pk (1 + (48 + n)) = .u8 := by unfold pk; rw [if_pos (by omega)]
      obtain ⟨W4, hW4⟩ : ∃ W4, ((V2.setCell ⟨g, 1 + (56 + n), none⟩ (.int .u8 (8 + k))).setCell ⟨g, 1 + (48 + n), none⟩ (.int .u8 9)).drew = W4 := ⟨_, rfl⟩
      have hq4 : PosAt W4 g (V.file c n k) := by
        rw [← hW4, V.file_eq]
        exact ⟨((HV.out.2.2.setCell (i := 1 + (56 + n)) (by omega) hpA (8 + k)).setCell (i := 1 + (48 + n)) (by omega) hpB 9).heap⟩
      have hP4 : Put g wr W4 := by
        have := ((HV.out.1.trans HV.out.2.1).trans (put_setCell V2 g (1 + (56 + n)) (.int .u8 (8 + k)))).trans (put_setCell _ g (1 + (48 + n)) (.int .u8 9))
        rw [← hW4]
        exact ⟨this.os, this.tape, this.output, this.size, this.block⟩
      have hz4 := (hP4.block (w.heap.size + 1) (by omega)).trans HQr.out.2.1
      have hbr4 := hP4.below HQr.out.2.2 (show w.heap.size ≤ g by omega)
      have H4 := Lib.hid (And.intro hq4 (And.intro hz4 (And.intro hbr4 (show w.heap.size + 1 < W4.heap.size by rw [hP4.size]; omega))))
      have w8 : IntKind.i8.wrap (n : Int) = (n : Int) := by unfold IntKind.wrap; simp [IntKind.bits, IntKind.signed]; omega
      obtain ⟨F, hF⟩ : ∃ F, V.file c n k = F := ⟨_, rfl⟩
      rw [hF] at H4 HST
      have HCas : Hid (∀ w, Calls Tryz.prog 108 #[.int .u8 (v : Int)] w fun e w' => e = .returned (.bool (V.castles v)) ∧ Below w.heap.size w w') := Lib.hid (rcastles_any v)
      rw [hW4]
      have HLT := Lib.hid hlt
      clear hq4 hP4 hz4 hbr4 hcA hcB hfA hfB hw1 hw2 hx1 hx2 hi1 hi2 hj1 hj2 hne hpA hpB hF hi k0 k1 HV hW4 HQr hlt
      generalize V.castles (v : Int) = cas at *
      cases cas
      · have HE := Lib.hid (show V.bothTo v l (n + 1) = F by rw [HST.out]; simp)
        clear HST
        go_wp2_with (first
          | (go_at_call 108; refine (HCas.out _).mono ?_; rintro e w6 ⟨rfl, hb6⟩; have hq6 := H4.out.1.below hb6; have hz6 := (hb6.block _ H4.out.2.2.2).trans H4.out.2.1; have hbr6 := below_next H4.out.2.2.1 hb6; have h80 := hq6.cell (i := 80) (by decide); rw [show pk 80 = .i8 from rfl] at h80; clear hb6))
        exact ⟨⟨n + 1, by have := HLT.out; omega, by have := HLT.out; go_num, by rw [HE.out]; exact hq6, hz6, hbr6⟩, by have := HLT.out; simp [intOf]; omega⟩
      · by_cases k4 : k = 4
        · have d4 : (k == 4) = true := by simpa using k4
          have HE := Lib.hid (show V.bothTo v l (n + 1) = if F 80 < 0 then upd (upd F 80 n) 82 n else upd (upd F 79 n) 81 n by rw [HST.out, if_pos ⟨rfl, k4⟩]; rfl)
          clear HST k4
          by_cases hr : F 80 < 0
          · have d8 : decide (F 80 < 0) = true := decide_eq_true hr
            have HE2 := Lib.hid (HE.out.trans (if_pos hr))
            clear hr HE
            go_wp2_with (first
              | (go_at_call 108; refine (HCas.out _).mono ?_; rintro e w6 ⟨rfl, hb6⟩; have hq6 := H4.out.1.below hb6; have hz6 := (hb6.block _ H4.out.2.2.2).trans H4.out.2.1; have hbr6 := below_next H4.out.2.2.1 hb6; have h80 := hq6.cell (i := 80) (by decide); rw [show pk 80 = .i8 from rfl] at h80; clear hb6)
              | ((with_reducible refine wp_store_cell rfl _ _ _ rfl ?_); refine ⟨_, _, _, _, _, rfl, rfl, hq6, (by decide), rfl, Tryz.size_i8S, ?_⟩; intro V7 hV7 hq7)
              | ((with_reducible refine wp_store_cell rfl _ _ _ rfl ?_); refine ⟨_, _, _, _, _, rfl, rfl, hq7, (by decide), rfl, Tryz.size_i8S, ?_⟩; intro V8 hV8 hq8))
            have hPP := hV7.trans hV8
            exact ⟨⟨n + 1, by have := HLT.out; omega, by have := HLT.out; go_num, by rw [HE2.out]; exact hq8, (hPP.block _ (by omega)).trans hz6, hPP.below hbr6 (by omega)⟩, by have := HLT.out; simp [intOf]; omega⟩
          · have d8 : decide (F 80 < 0) = false := decide_eq_false hr
            have HE2 := Lib.hid (HE.out.trans (if_neg hr))
            clear hr HE
            go_wp2_with (first
              | (go_at_call 108; refine (HCas.out _).mono ?_; rintro e w6 ⟨rfl, hb6⟩; have hq6 := H4.out.1.below hb6; have hz6 := (hb6.block _ H4.out.2.2.2).trans H4.out.2.1; have hbr6 := below_next H4.out.2.2.1 hb6; have h80 := hq6.cell (i := 80) (by decide); rw [show pk 80 = .i8 from rfl] at h80; clear hb6)
              | ((with_reducible refine wp_store_cell rfl _ _ _ rfl ?_); refine ⟨_, _, _, _, _, rfl, rfl, hq6, (by decide), rfl, Tryz.size_i8S, ?_⟩; intro V7 hV7 hq7)
              | ((with_reducible refine wp_store_cell rfl _ _ _ rfl ?_); refine ⟨_, _, _, _, _, rfl, rfl, hq7, (by decide), rfl, Tryz.size_i8S, ?_⟩; intro V8 hV8 hq8))
            have hPP := hV7.trans hV8
            exact ⟨⟨n + 1, by have := HLT.out; omega, by have := HLT.out; go_num, by rw [HE2.out]; exact hq8, (hPP.block _ (by omega)).trans hz6, hPP.below hbr6 (by omega)⟩, by have := HLT.out; simp [intOf]; omega⟩
        · have d4 : (k == 4) = false := by simpa using k4
          have HE := Lib.hid (show V.bothTo v l (n + 1) = F by rw [HST.out, if_neg (fun h => k4 h.2)])
          clear HST k4
          go_wp2_with (first
            | (go_at_call 108; refine (HCas.out _).mono ?_; rintro e w6 ⟨rfl, hb6⟩; have hq6 := H4.out.1.below hb6; have hz6 := (hb6.block _ H4.out.2.2.2).trans H4.out.2.1; have hbr6 := below_next H4.out.2.2.1 hb6; have h80 := hq6.cell (i := 80) (by decide); rw [show pk 80 = .i8 from rfl] at h80; clear hb6))
          exact ⟨⟨n + 1, by have := HLT.out; omega, by have := HLT.out; go_num, by rw [HE.out]; exact hq6, hz6, hbr6⟩, by have := HLT.out; simp [intOf]; omega⟩
    · obtain rfl : n = 8 := by omega
      go_wp2_with (first
        | ((with_reducible refine wp_load_box rfl _ rfl ?_); refine ⟨_, _, rfl, hq, ?_⟩)
        | ((with_reducible refine wp_store_box rfl _ _ rfl ?_); refine ⟨_, _, rfl, rfl, ⟨_, hz, (by kernel_rfl)⟩, ?_⟩; intro W5 hP5 hq5))
      exact bodyPost_ret (v := .agg (posC (V.bothTo v l 8))) (results_cell_row Tryz.results119 _ _ (w.heap.size + 1) 31 _ (0, 0) _ rfl hq5.heap Tryz.underlying31 rfl (posC_info _)) rfl ⟨rfl, hP5.below hbr (by omega)⟩
end Go.Proofs.YtgkndhpolcnjbaaGreatDoor
namespace Go.Proofs.YtgkndhpolcnjbaaGreatDoor
open Go.RowKit Go.Sort
attribute [local go_sem] Oper.semAt_some
namespace V
def home : Nat → Int
  | 0 => 4 | 1 => 2 | 2 => 3 | 3 => 5 | 4 => 6 | 5 => 3 | 6 => 2 | 7 => 4 | _ => 0
/-- A first position with home ranks. -/
def start (v : Int) : Nat → Int := bothTo v home 8
end V
set_option maxRecDepth 100000 in
set_option maxHeartbeats 4000000 in
theorem start_any (v : Nat) (w : World) (hv : v < 7) : Calls Tryz.prog 55 #[.int .u8 (v : Int)] w fun e w' => e = .returned (.tuple #[.agg (posC (V.start v)), .bool true]) ∧ Below w.heap.size w w' := by
  have hz := heap_alloc_new w (.cells Tryz.zeroCells31 31)
  have hb0 : Below w.heap.size w (w.alloc (.cells Tryz.zeroCells31 31)) := (Below.refl _ _).alloc (Nat.le_refl _) _
  obtain ⟨W, hW⟩ : ∃ W, w.alloc (.cells Tryz.zeroCells31 31) = W := ⟨_, rfl⟩
  rw [hW] at hz hb0
  have hs : W.heap.size = w.heap.size + 1 := by rw [← hW]; simp
  have d9 : decide ((9 : Int) ≤ (v : Int)) = false := by simp; omega
  have d7 : ((v : Int) == 7) = false := by simp; omega
  have d8 : ((v : Int) == 8) = false := by simp; omega
  have HB : Hid (∀ w T, T = (v : Int) → Calls Tryz.prog 119 #[.int .u8 T, .agg #[.int .u8 4, .int .u8 2, .int .u8 3, .int .u8 5, .int .u8 6, .int .u8 3, .int .u8 2, .int .u8 4]] w fun e w' => e = .returned (.agg (posC (V.start v))) ∧ Below w.heap.size w w') :=
    Lib.hid (fun w T h => by rw [h]; exact both_any v V.home w (by decide))
  have HZ := Lib.hid (And.intro hz hb0)
  clear hz hb0 hv
  go_enter Tryz.func55, Tryz.ntmps55
  go_wp2_with (first
    | (go_at_call 120; refine (chess_any _).mono ?_; rintro e w1 ⟨rfl, hb1⟩)
    | (go_at_call 119; refine (HB.out _ _ (by first | rfl | omega)).mono ?_; rintro e w2 ⟨rfl, hb2⟩)
    | ((with_reducible refine wp_store_box rfl _ _ rfl ?_); refine ⟨w.heap.size, _, rfl, rfl, ⟨_, (hb2.block _ (by have := hb1.size; omega)).trans ((hb1.block _ (by omega)).trans HZ.out.1), (by kernel_rfl)⟩, ?_⟩; intro W3 hP3 hq3))
  exact bodyPost_ret (v := .tuple #[.agg (posC (V.start v)), .bool true]) (results_row_tmp Tryz.results55 _ _ w.heap.size 31 _ (0, 0) _ rfl hq3.heap Tryz.underlying31 rfl (posC_info _)) rfl ⟨rfl, hP3.below (below_next (below_next HZ.out.2 hb1) hb2) (Nat.le_refl _)⟩
end Go.Proofs.YtgkndhpolcnjbaaGreatDoor
namespace Go.Proofs.YtgkndhpolcnjbaaGreatDoor
open Go.RowKit Go.Sort
attribute [local go_sem] Oper.semAt_some
set_option maxRecDepth 100000 in
set_option maxHeartbeats 1000000 in
theorem rpockets_any (v : Nat) (w : World) :
    Calls Tryz.prog 110 #[.int .u8 (v : Int)] w fun e w' => e = .returned (.bool (decide (v = 2))) ∧ Below w.heap.size w w' := by
  have hv : ∃ s a b c d e l, V.of v = #[.string s, .bool a, .bool b, .bool c, .bool d, .bool e, .int .u8 l] ∧ decide (v = 2) = d := by
    by_cases h9 : v < 9
    · match v, h9 with
      | 0, _ | 1, _ | 2, _ | 3, _ | 4, _ | 5, _ | 6, _ | 7, _ | 8, _ => exact ⟨_, _, _, _, _, _, _, rfl, rfl⟩
    · refine ⟨_, _, _, _, _, _, _, (by unfold V.of; split <;> first | omega | rfl), ?_⟩ <;> (rw [decide_eq_false (by omega)])
  obtain ⟨s, a, b, c, d, e, l, hv, r0⟩ := hv
  have hk := fun w => of_k v w
  rw [hv] at hk
  rw [r0]
  clear hv r0
  have H := Lib.hid hk
  clear hk
  have hfd : ∀ w, (Instr.field 178 (.agg #[.string s, .bool a, .bool b, .bool c, .bool d, .bool e, .int .u8 l]) 3).run Tryz.prog w = .ok (.bool d) w := fun _ => by kernel_rfl
  go_enter Tryz.func110, Tryz.ntmps110
  go_wp2_with (go_at_call 148; refine (H.out _).mono ?_; rintro e w1 ⟨rfl, hb1⟩)
  go_ret
  exact ⟨rfl, hb1⟩
end Go.Proofs.YtgkndhpolcnjbaaGreatDoor
