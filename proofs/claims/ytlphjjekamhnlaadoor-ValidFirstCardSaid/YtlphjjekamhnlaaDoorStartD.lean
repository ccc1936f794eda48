/- The program's package rules: first positions: horde, racing, Start. -/
import Derived.Test.YtlphjjekamhnlaaDoorStartC
import Derived.Test.YtlphjjekamhnlaaDoorLaw12d
namespace Go.Proofs.YtlphjjekamhnlaaDoor
open Go.RowKit Go.Sort
attribute [local go_sem] Oper.semAt_some

/-- A result's box at g, a position at b. -/
structure ResAt (w : World) (g b : Nat) (d : Nat → Int) (W : World) : Prop where
  res : W.heap[g]? = some (.cells Tryd.zeroCells31 31 (0, 0))
  q : PosAt W b d
  lt : g < b
  below : Below g w W
section
variable {w W W' : World} {g b e : Nat} {d d' : Nat → Int}
theorem ResAt.next (h : ResAt w g b d W) (hb : Below W.heap.size W W') : ResAt w g b d W' := by
  have := h.q.lt
  have := h.lt
  exact ⟨(hb.block _ (by omega)).trans h.res, h.q.below hb, h.lt, h.below.trans (hb.mono (by omega))⟩
theorem ResAt.put (h : ResAt w g b d W) (hP : Put b W W') (hq : PosAt W' b d') : ResAt w g b d' W' := by
  have := h.lt
  exact ⟨(hP.block _ (by omega)).trans h.res, hq, h.lt, hP.below h.below (by omega)⟩
theorem ResAt.start (h : W.heap[g]? = some (.cells Tryd.zeroCells31 31 (0, 0)) ∧ Below g w W) (hb : W.heap.size = b) (hg : g < b) (hP : Put b (W.alloc (.cells Tryd.zeroCells31 31)) W') (hq : PosAt W' b d) : ResAt w g b d W' :=
  ⟨(hP.block _ (by omega)).trans ((Below.heap_alloc _ _ _ (by omega)).trans h.1), hq, hg, hP.below (h.2.alloc (by omega) _) (by omega)⟩
end
namespace V
def sqTo (c : Nat → Int) : Nat → Nat → Int
  | 0 => c
  | k + 1 => upd (sqTo c k) (1 + k) 1
def hordeH : Nat → Int := upd (upd (bothTo 7 home 8) 79 (-1)) 80 (-1)
def h4 : Nat → Nat → Int
  | 0 => sqTo hordeH 32
  | 1 => upd (sqTo hordeH 32) 34 1
  | 2 => upd (upd (sqTo hordeH 32) 34 1) 35 1
  | 3 => upd (upd (upd (sqTo hordeH 32) 34 1) 35 1) 38 1
  | _ => upd (upd (upd (upd (sqTo hordeH 32) 34 1) 35 1) 38 1) 39 1
/-- Horde's first position. -/
def horde : Nat → Int := h4 4
def raceK : Nat → Int
  | 0 => 5 | 1 => 4 | 2 => 3 | 3 => 2 | 4 => 6 | 5 => 4 | 6 => 3 | 7 => 2 | _ => 0
def race : Nat → Nat → Int
  | 0 => none' 8
  | n + 1 => upd (upd (race n) (1 + (8 * (n / 4) + n % 4)) (8 + raceK n)) (1 + (8 * (n / 4) + 7 - n % 4)) (raceK n)
/-- Racing's first position. -/
def racing : Nat → Int := race 8
end V
theorem Tryd.built_i2 : Tryd.prog.built 27 [(0, .int .i8 (-1)), (1, .int .i8 (-1))] = some #[.int .i8 (-1), .int .i8 (-1)] := by kernel_rfl

set_option maxRecDepth 100000 in
set_option maxHeartbeats 4000000 in
theorem horde_any (w : World) : Calls Tryd.prog 46 #[] w fun e w' => e = .returned (.agg (posC V.horde)) ∧ Below w.heap.size w w' := by
  have hz := heap_alloc_new w (.cells Tryd.zeroCells31 31)
  have hb0 : Below w.heap.size w (w.alloc (.cells Tryd.zeroCells31 31)) := (Below.refl _ _).alloc (Nat.le_refl _) _
  have hs0 : (w.alloc (.cells Tryd.zeroCells31 31)).heap.size = w.heap.size + 1 := by simp
  obtain ⟨W0, hW0⟩ : ∃ W, w.alloc (.cells Tryd.zeroCells31 31) = W := ⟨_, rfl⟩
  rw [hW0] at hz hb0 hs0
  have HZ := Lib.hid (And.intro hz hb0)
  clear hz hb0
  have HB : Hid (∀ w, Calls Tryd.prog 48 #[.int .u8 7, .agg #[.int .u8 4, .int .u8 2, .int .u8 3, .int .u8 5, .int .u8 6, .int .u8 3, .int .u8 2, .int .u8 4]] w fun e w' => e = .returned (.agg (posC (V.bothTo 7 V.home 8))) ∧ Below w.heap.size w w') := Lib.hid (fun w => both_any 7 V.home w (by decide))
  go_enter Tryd.func46, Tryd.ntmps46
  go_upto_region 3 with (first
    | (go_at_call 49; refine (chess_any _).mono ?_; rintro e w1 ⟨rfl, hb1⟩; have HZw1 := Lib.hid (show w1.heap[w.heap.size]? = some (.cells Tryd.zeroCells31 31 (0, 0)) ∧ Below w.heap.size w w1 from ⟨(hb1.block _ (by omega)).trans HZ.out.1, HZ.out.2.trans (hb1.mono (by omega))⟩); have hsw1 : w.heap.size < w1.heap.size := (by have := hb1.size; omega); clear hb1)
    | (go_at_call 48; refine (HB.out _).mono ?_; rintro e w2 ⟨rfl, hb2⟩; have HZw2 := Lib.hid (show w2.heap[w.heap.size]? = some (.cells Tryd.zeroCells31 31 (0, 0)) ∧ Below w.heap.size w w2 from ⟨(hb2.block _ (by omega)).trans HZw1.out.1, HZw1.out.2.trans (hb2.mono (by omega))⟩); have hsw2 : w.heap.size < w2.heap.size := (by have := hb2.size; omega); clear hb2)
    | ((with_reducible refine wp_store_box rfl _ _ rfl ?_); refine ⟨w2.heap.size, _, rfl, rfl, ⟨_, heap_alloc_new _ _, (by kernel_rfl)⟩, ?_⟩; intro W3 hP hq; have H3 := Lib.hid (ResAt.start HZw2.out rfl hsw2 hP hq); clear hP hq)
    | ((with_reducible refine wpl_build rfl 27 _ rfl ?_); refine ⟨_, _, rfl, Tryd.built_i2, ?_⟩)
    | ((with_reducible refine wp_store_cells rfl 27 _ _ rfl ?_); refine ⟨w2.heap.size, 79, [-1, -1], _, rfl, rfl, H3.out.q, (Nat.le_of_ble_eq_true rfl), Tryd.size_i2, ?_⟩; intro W4 hP hq; have H4 : Hid (ResAt w w.heap.size w2.heap.size V.hordeH W4) := Lib.hid (H3.out.put hP hq); clear hP hq))
  obtain ⟨b, hb⟩ : ∃ b, w2.heap.size = b := ⟨_, rfl⟩
  rw [hb] at H4 ⊢
  clear hb H3 HZ HZw1 HZw2 hsw1 hsw2 hW0 hs0 HB
  go_wp2
  go_loopw [10] (fun i wr => ∃ k : Nat, k ≤ 32 ∧ i = .int .i64 (k : Int) ∧ ResAt w w.heap.size b (V.sqTo V.hordeH k) wr) (fun i _ => 32 - (intOf i).toNat)
  case atStart => exact ⟨0, Nat.zero_le _, rfl, H4.out⟩
  case round =>
    obtain ⟨k, hk, rfl, hM⟩ := hrel
    have HM := Lib.hid hM
    clear hM H4
    by_cases hlt : k < 32
    · have HS := Lib.hid (show V.sqTo V.hordeH (k + 1) = upd (V.sqTo V.hordeH k) (1 + k) 1 from rfl)
      go_wp2_with ((with_reducible refine wp_store_cell rfl _ _ _ rfl ?_); refine ⟨_, _, _, _, _, rfl, rfl, HM.out.q, (by omega), pk_board (by omega), Tryd.size_u8, ?_⟩; intro V2 hP hq; have HM2 := Lib.hid (HM.out.put hP hq); clear hP hq)
      go_roundw
      case rel => exact ⟨k + 1, by omega, by go_num, by rw [HS.out]; exact HM2.out⟩
      case measure => simp [intOf]; omega
    · obtain rfl : k = 32 := by omega
      rw [show ((32 : Nat) : Int) = 32 from rfl]
      have HR := Lib.hid (RowAt.new wr #[.int .i64 33, .int .i64 34, .int .i64 37, .int .i64 38] 3)
      have HM0 := Lib.hid (show ResAt w w.heap.size b (V.h4 0) (wr.alloc (.cells #[.int .i64 33, .int .i64 34, .int .i64 37, .int .i64 38] 3)) from HM.out.next ((Below.refl _ _).alloc (Nat.le_refl _) _))
      have hbs := HM.out.q.lt
      go_wp2
      obtain ⟨s, hs⟩ : ∃ s, wr.heap.size = s := ⟨_, rfl⟩
      obtain ⟨W5, hW5⟩ : ∃ W, wr.alloc (.cells #[.int .i64 33, .int .i64 34, .int .i64 37, .int .i64 38] 3) = W := ⟨_, rfl⟩
      rw [hW5] at HR HM0
      rw [hs] at HR hbs
      try rw [hW5]
      try rw [hs]
      clear hW5 hs HM hlt hk
      go_loopw [19] (fun i wr => ∃ k : Nat, k ≤ 4 ∧ i = .int .i64 (k : Int) ∧ ResAt w w.heap.size b (V.h4 k) wr ∧ RowAt wr s 3 #[.int .i64 33, .int .i64 34, .int .i64 37, .int .i64 38]) (fun i _ => 4 - (intOf i).toNat)
      case atStart => exact ⟨0, Nat.zero_le _, rfl, HM0.out, HR.out⟩
      case round =>
        obtain ⟨k, hk, rfl, hM, hR⟩ := hrel
        have HM := Lib.hid hM
        have HRr := Lib.hid hR
        clear hM HM0 HR
        rcases (show k = 0 ∨ k = 1 ∨ k = 2 ∨ k = 3 ∨ k = 4 by omega) with rfl | rfl | rfl | rfl | rfl
        · have h1 := hR.cell 0
          simp only [List.getElem?_toArray, List.getElem?_cons_zero] at h1
          clear hR
          go_wp2_with ((with_reducible refine wp_store_cell rfl _ _ _ rfl ?_); refine ⟨b, 34, _, _, _, rfl, rfl, HM.out.q, (by decide), rfl, Tryd.size_u8, ?_⟩; intro V2 hP hq; have HM2 : Hid (ResAt w w.heap.size b (V.h4 1) V2) := Lib.hid (HM.out.put hP hq); have HR2 := Lib.hid (hP.row HRr.out (by omega)); clear hP hq)
          go_roundw
          case rel => exact ⟨1, by omega, rfl, HM2.out, HR2.out⟩
          case measure => simp [intOf]
        · have h1 := hR.cell 1
          simp only [List.getElem?_toArray, List.getElem?_cons_zero, List.getElem?_cons_succ] at h1
          clear hR
          go_wp2_with ((with_reducible refine wp_store_cell rfl _ _ _ rfl ?_); refine ⟨b, 35, _, _, _, rfl, rfl, HM.out.q, (by decide), rfl, Tryd.size_u8, ?_⟩; intro V2 hP hq; have HM2 : Hid (ResAt w w.heap.size b (V.h4 2) V2) := Lib.hid (HM.out.put hP hq); have HR2 := Lib.hid (hP.row HRr.out (by omega)); clear hP hq)
          go_roundw
          case rel => exact ⟨2, by omega, rfl, HM2.out, HR2.out⟩
          case measure => simp [intOf]
        · have h1 := hR.cell 2
          simp only [List.getElem?_toArray, List.getElem?_cons_zero, List.getElem?_cons_succ] at h1
          clear hR
          go_wp2_with ((with_reducible refine wp_store_cell rfl _ _ _ rfl ?_); refine ⟨b, 38, _, _, _, rfl, rfl, HM.out.q, (by decide), rfl, Tryd.size_u8, ?_⟩; intro V2 hP hq; have HM2 : Hid (ResAt w w.heap.size b (V.h4 3) V2) := Lib.hid (HM.out.put hP hq); have HR2 := Lib.hid (hP.row HRr.out (by omega)); clear hP hq)
          go_roundw
          case rel => exact ⟨3, by omega, rfl, HM2.out, HR2.out⟩
          case measure => simp [intOf]
        · have h1 := hR.cell 3
          simp only [List.getElem?_toArray, List.getElem?_cons_zero, List.getElem?_cons_succ] at h1
          clear hR
          go_wp2_with ((with_reducible refine wp_store_cell rfl _ _ _ rfl ?_); refine ⟨b, 39, _, _, _, rfl, rfl, HM.out.q, (by decide), rfl, Tryd.size_u8, ?_⟩; intro V2 hP hq; have HM2 : Hid (ResAt w w.heap.size b (V.h4 4) V2) := Lib.hid (HM.out.put hP hq); have HR2 := Lib.hid (hP.row HRr.out (by omega)); clear hP hq)
          go_roundw
          case rel => exact ⟨4, by omega, rfl, HM2.out, HR2.out⟩
          case measure => simp [intOf]
        · clear hR
          go_wp2_with (first
            | ((with_reducible refine wp_load_box_g rfl _ rfl ?_); refine ⟨_, _, rfl, HM.out.q, ?_⟩)
            | ((with_reducible refine wp_store_box rfl _ _ rfl ?_); refine ⟨w.heap.size, V.horde, rfl, rfl, ⟨_, HM.out.res, (by kernel_rfl)⟩, ?_⟩; intro W9 hP9 hq9))
          exact bodyPost_ret (v := .agg (posC V.horde)) (results_cell_row Tryd.results46 _ _ w.heap.size 31 _ (0, 0) _ rfl hq9.heap Tryd.underlying31 rfl (posC_info _)) rfl ⟨rfl, hP9.below HM.out.below (Nat.le_refl _)⟩

/-- Racing's rows of letters. -/
structure RaceAt (s : Nat) (W : World) : Prop where
  a : RowAt W s 5 #[.int .u8 5, .int .u8 4, .int .u8 3, .int .u8 2]
  b : RowAt W (s + 1) 5 #[.int .u8 6, .int .u8 4, .int .u8 3, .int .u8 2]
  c : RowAt W (s + 2) 60 #[.slice (some ⟨s, 0, none⟩) 4 4, .slice (some ⟨s + 1, 0, none⟩) 4 4]
theorem RaceAt.put {W W' : World} {s g : Nat} (h : RaceAt s W) (hP : Put g W W') (hg : g < s) : RaceAt s W' := ⟨hP.row h.a (by omega), hP.row h.b (by omega), hP.row h.c (by omega)⟩
set_option maxRecDepth 100000 in
set_option maxHeartbeats 4000000 in
theorem racing_any (w : World) : Calls Tryd.prog 47 #[] w fun e w' => e = .returned (.agg (posC V.racing)) ∧ Below w.heap.size w w' := by
  have hz := heap_alloc_new w (.cells Tryd.zeroCells31 31)
  have hb0 : Below w.heap.size w (w.alloc (.cells Tryd.zeroCells31 31)) := (Below.refl _ _).alloc (Nat.le_refl _) _
  have hs0 : (w.alloc (.cells Tryd.zeroCells31 31)).heap.size = w.heap.size + 1 := by simp
  obtain ⟨W0, hW0⟩ : ∃ W, w.alloc (.cells Tryd.zeroCells31 31) = W := ⟨_, rfl⟩
  rw [hW0] at hz hb0 hs0
  have HZ := Lib.hid (And.intro hz hb0)
  clear hz hb0
  go_enter Tryd.func47, Tryd.ntmps47
  go_upto_region 2 with (first
    | (go_at_call 79; refine (none_any _ _).mono ?_; rintro e w1 ⟨rfl, hb1⟩; have HZw1 := Lib.hid (show w1.heap[w.heap.size]? = some (.cells Tryd.zeroCells31 31 (0, 0)) ∧ Below w.heap.size w w1 from ⟨(hb1.block _ (by omega)).trans HZ.out.1, HZ.out.2.trans (hb1.mono (by omega))⟩); have hsw1 : w.heap.size < w1.heap.size := (by have := hb1.size; omega); clear hb1)
    | ((with_reducible refine wp_store_box rfl _ _ rfl ?_); refine ⟨w1.heap.size, V.none' 8, rfl, rfl, ⟨_, heap_alloc_new _ _, (by kernel_rfl)⟩, ?_⟩; intro W3 hP hq; have H3 := Lib.hid (ResAt.start HZw1.out rfl hsw1 hP hq); clear hP hq))
  obtain ⟨b, hb⟩ : ∃ b, w1.heap.size = b := ⟨_, rfl⟩
  rw [hb] at H3 ⊢
  clear hb HZ HZw1 hsw1 hW0 hs0
  have hbs := H3.out.q.lt
  have HR0 : Hid (RaceAt W3.heap.size (((W3.alloc (.cells #[.int .u8 5, .int .u8 4, .int .u8 3, .int .u8 2] 5)).alloc (.cells #[.int .u8 6, .int .u8 4, .int .u8 3, .int .u8 2] 5)).alloc (.cells #[.slice (some ⟨W3.heap.size, 0, none⟩) 4 4, .slice (some ⟨W3.heap.size + 1, 0, none⟩) 4 4] 60))) := Lib.hid ⟨((RowAt.new W3 _ _).alloc _).alloc _, (by
    have := (RowAt.new (W3.alloc (.cells #[.int .u8 5, .int .u8 4, .int .u8 3, .int .u8 2] 5)) #[.int .u8 6, .int .u8 4, .int .u8 3, .int .u8 2] 5).alloc (.cells #[.slice (some ⟨W3.heap.size, 0, none⟩) 4 4, .slice (some ⟨W3.heap.size + 1, 0, none⟩) 4 4] 60)
    rwa [World.size_alloc] at this), (by
    have := RowAt.new ((W3.alloc (.cells #[.int .u8 5, .int .u8 4, .int .u8 3, .int .u8 2] 5)).alloc (.cells #[.int .u8 6, .int .u8 4, .int .u8 3, .int .u8 2] 5)) #[.slice (some ⟨W3.heap.size, 0, none⟩) 4 4, .slice (some ⟨W3.heap.size + 1, 0, none⟩) 4 4] 60
    rwa [World.size_alloc, World.size_alloc] at this)⟩
  have HM0 := Lib.hid (show ResAt w w.heap.size b (V.race 0) (((W3.alloc (.cells #[.int .u8 5, .int .u8 4, .int .u8 3, .int .u8 2] 5)).alloc (.cells #[.int .u8 6, .int .u8 4, .int .u8 3, .int .u8 2] 5)).alloc (.cells #[.slice (some ⟨W3.heap.size, 0, none⟩) 4 4, .slice (some ⟨W3.heap.size + 1, 0, none⟩) 4 4] 60)) from H3.out.next ((((Below.refl _ _).alloc (Nat.le_refl _) _).alloc (by simp) _).alloc (by simp; omega) _))
  go_wp2
  obtain ⟨W5, hW5⟩ : ∃ W, ((W3.alloc (.cells #[.int .u8 5, .int .u8 4, .int .u8 3, .int .u8 2] 5)).alloc (.cells #[.int .u8 6, .int .u8 4, .int .u8 3, .int .u8 2] 5)).alloc (.cells #[.slice (some ⟨W3.heap.size, 0, none⟩) 4 4, .slice (some ⟨W3.heap.size + 1, 0, none⟩) 4 4] 60) = W := ⟨_, rfl⟩
  rw [hW5] at HR0 HM0
  try rw [hW5]
  clear hW5
  obtain ⟨s, hs⟩ : ∃ s, W3.heap.size = s := ⟨_, rfl⟩
  rw [hs] at HR0 hbs
  try rw [hs]
  clear hs H3
  go_loopw [11] (fun i wr => ∃ k : Nat, k ≤ 2 ∧ i = .int .i64 (k : Int) ∧ ResAt w w.heap.size b (V.race (4 * k)) wr ∧ RaceAt s wr) (fun i _ => 2 - (intOf i).toNat)
  case atStart => exact ⟨0, Nat.zero_le _, rfl, HM0.out, HR0.out⟩
  case round =>
    obtain ⟨k, hk, rfl, hM, hR⟩ := hrel
    have HM := Lib.hid hM
    have HR := Lib.hid hR
    clear hM hR HM0 HR0
    rcases (show k = 0 ∨ k = 1 ∨ k = 2 by omega) with rfl | rfl | rfl
    · have h1 := HR.out.c.cell 0
      rw [show ((0 : Nat) : Int) = 0 from rfl]
      simp only [List.getElem?_toArray, List.getElem?_cons_zero] at h1
      go_wp2
      clear h1
      go_loopw [18] (fun i wr => ∃ f : Nat, f ≤ 4 ∧ i = .int .i64 (f : Int) ∧ ResAt w w.heap.size b (V.race (0 + f)) wr ∧ RaceAt s wr) (fun i _ => 4 - (intOf i).toNat)
      case atStart => exact ⟨0, Nat.zero_le _, rfl, HM.out, HR.out⟩
      case round =>
        obtain ⟨f, hf, rfl, hM, hR⟩ := hrel
        have HMf := Lib.hid hM
        have HRf := Lib.hid hR
        clear hM hR
        rcases (show f = 0 ∨ f = 1 ∨ f = 2 ∨ f = 3 ∨ f = 4 by omega) with rfl | rfl | rfl | rfl | rfl
        · have h2 := HRf.out.a.cell 0
          simp only [List.getElem?_toArray, List.getElem?_cons_zero] at h2
          have HBk : Hid (∀ w, Calls Tryd.prog 80 #[.int .u8 5] w fun e w' => e = .returned (.int .u8 13) ∧ w = w') := Lib.hid (fun w => black_any 5 w (by decide) (by decide))
          go_wp2_with (first
            | (go_at_call 80; refine (HBk.out _).mono ?_; rintro e w' ⟨rfl, rfl⟩)
            | ((with_reducible refine wp_store_cell rfl _ _ _ rfl ?_); refine ⟨b, 1, _, _, _, rfl, rfl, HMf.out.q, (by decide), rfl, Tryd.size_u8, ?_⟩; intro V2 hP hq; have HM2 := Lib.hid (HMf.out.put hP hq); have HR2 := Lib.hid (HRf.out.put hP hbs); clear hP hq)
            | ((with_reducible refine wp_store_cell rfl _ _ _ rfl ?_); refine ⟨b, 8, _, _, _, rfl, rfl, HM2.out.q, (by decide), rfl, Tryd.size_u8, ?_⟩; intro V3 hP hq; have HM3 : Hid (ResAt w w.heap.size b (V.race (0 + 1)) V3) := Lib.hid (HM2.out.put hP hq); have HR3 := Lib.hid (HR2.out.put hP hbs); clear hP hq))
          go_roundw
          case rel => exact ⟨1, by omega, rfl, HM3.out, HR3.out⟩
          case measure => simp [intOf]
        · have h2 := HRf.out.a.cell 1
          simp only [List.getElem?_toArray, List.getElem?_cons_zero, List.getElem?_cons_succ] at h2
          have HBk : Hid (∀ w, Calls Tryd.prog 80 #[.int .u8 4] w fun e w' => e = .returned (.int .u8 12) ∧ w = w') := Lib.hid (fun w => black_any 4 w (by decide) (by decide))
          go_wp2_with (first
            | (go_at_call 80; refine (HBk.out _).mono ?_; rintro e w' ⟨rfl, rfl⟩)
            | ((with_reducible refine wp_store_cell rfl _ _ _ rfl ?_); refine ⟨b, 2, _, _, _, rfl, rfl, HMf.out.q, (by decide), rfl, Tryd.size_u8, ?_⟩; intro V2 hP hq; have HM2 := Lib.hid (HMf.out.put hP hq); have HR2 := Lib.hid (HRf.out.put hP hbs); clear hP hq)
            | ((with_reducible refine wp_store_cell rfl _ _ _ rfl ?_); refine ⟨b, 7, _, _, _, rfl, rfl, HM2.out.q, (by decide), rfl, Tryd.size_u8, ?_⟩; intro V3 hP hq; have HM3 : Hid (ResAt w w.heap.size b (V.race (0 + 2)) V3) := Lib.hid (HM2.out.put hP hq); have HR3 := Lib.hid (HR2.out.put hP hbs); clear hP hq))
          go_roundw
          case rel => exact ⟨2, by omega, rfl, HM3.out, HR3.out⟩
          case measure => simp [intOf]
        · have h2 := HRf.out.a.cell 2
          simp only [List.getElem?_toArray, List.getElem?_cons_zero, List.getElem?_cons_succ] at h2
          have HBk : Hid (∀ w, Calls Tryd.prog 80 #[.int .u8 3] w fun e w' => e = .returned (.int .u8 11) ∧ w = w') := Lib.hid (fun w => black_any 3 w (by decide) (by decide))
          go_wp2_with (first
            | (go_at_call 80; refine (HBk.out _).mono ?_; rintro e w' ⟨rfl, rfl⟩)
            | ((with_reducible refine wp_store_cell rfl _ _ _ rfl ?_); refine ⟨b, 3, _, _, _, rfl, rfl, HMf.out.q, (by decide), rfl, Tryd.size_u8, ?_⟩; intro V2 hP hq; have HM2 := Lib.hid (HMf.out.put hP hq); have HR2 := Lib.hid (HRf.out.put hP hbs); clear hP hq)
            | ((with_reducible refine wp_store_cell rfl _ _ _ rfl ?_); refine ⟨b, 6, _, _, _, rfl, rfl, HM2.out.q, (by decide), rfl, Tryd.size_u8, ?_⟩; intro V3 hP hq; have HM3 : Hid (ResAt w w.heap.size b (V.race (0 + 3)) V3) := Lib.hid (HM2.out.put hP hq); have HR3 := Lib.hid (HR2.out.put hP hbs); clear hP hq))
          go_roundw
          case rel => exact ⟨3, by omega, rfl, HM3.out, HR3.out⟩
          case measure => simp [intOf]
        · have h2 := HRf.out.a.cell 3
          simp only [List.getElem?_toArray, List.getElem?_cons_zero, List.getElem?_cons_succ] at h2
          have HBk : Hid (∀ w, Calls Tryd.prog 80 #[.int .u8 2] w fun e w' => e = .returned (.int .u8 10) ∧ w = w') := Lib.hid (fun w => black_any 2 w (by decide) (by decide))
          go_wp2_with (first
            | (go_at_call 80; refine (HBk.out _).mono ?_; rintro e w' ⟨rfl, rfl⟩)
            | ((with_reducible refine wp_store_cell rfl _ _ _ rfl ?_); refine ⟨b, 4, _, _, _, rfl, rfl, HMf.out.q, (by decide), rfl, Tryd.size_u8, ?_⟩; intro V2 hP hq; have HM2 := Lib.hid (HMf.out.put hP hq); have HR2 := Lib.hid (HRf.out.put hP hbs); clear hP hq)
            | ((with_reducible refine wp_store_cell rfl _ _ _ rfl ?_); refine ⟨b, 5, _, _, _, rfl, rfl, HM2.out.q, (by decide), rfl, Tryd.size_u8, ?_⟩; intro V3 hP hq; have HM3 : Hid (ResAt w w.heap.size b (V.race (0 + 4)) V3) := Lib.hid (HM2.out.put hP hq); have HR3 := Lib.hid (HR2.out.put hP hbs); clear hP hq))
          go_roundw
          case rel => exact ⟨4, by omega, rfl, HM3.out, HR3.out⟩
          case measure => simp [intOf]
        · go_wp2
          go_roundw
          case rel => exact ⟨1, by omega, rfl, HMf.out, HRf.out⟩
          case measure => simp [intOf]
    · have h1 := HR.out.c.cell 1
      rw [show ((1 : Nat) : Int) = 1 from rfl]
      simp only [List.getElem?_toArray, List.getElem?_cons_zero, List.getElem?_cons_succ] at h1
      go_wp2
      clear h1
      go_loopw [18] (fun i wr => ∃ f : Nat, f ≤ 4 ∧ i = .int .i64 (f : Int) ∧ ResAt w w.heap.size b (V.race (4 + f)) wr ∧ RaceAt s wr) (fun i _ => 4 - (intOf i).toNat)
      case atStart => exact ⟨0, Nat.zero_le _, rfl, HM.out, HR.out⟩
      case round =>
        obtain ⟨f, hf, rfl, hM, hR⟩ := hrel
        have HMf := Lib.hid hM
        have HRf := Lib.hid hR
        clear hM hR
        rcases (show f = 0 ∨ f = 1 ∨ f = 2 ∨ f = 3 ∨ f = 4 by omega) with rfl | rfl | rfl | rfl | rfl
        · have h2 := HRf.out.b.cell 0
          simp only [List.getElem?_toArray, List.getElem?_cons_zero] at h2
          have HBk : Hid (∀ w, Calls Tryd.prog 80 #[.int .u8 6] w fun e w' => e = .returned (.int .u8 14) ∧ w = w') := Lib.hid (fun w => black_any 6 w (by decide) (by decide))
          go_wp2_with (first
            | (go_at_call 80; refine (HBk.out _).mono ?_; rintro e w' ⟨rfl, rfl⟩)
            | ((with_reducible refine wp_store_cell rfl _ _ _ rfl ?_); refine ⟨b, 9, _, _, _, rfl, rfl, HMf.out.q, (by decide), rfl, Tryd.size_u8, ?_⟩; intro V2 hP hq; have HM2 := Lib.hid (HMf.out.put hP hq); have HR2 := Lib.hid (HRf.out.put hP hbs); clear hP hq)
            | ((with_reducible refine wp_store_cell rfl _ _ _ rfl ?_); refine ⟨b, 16, _, _, _, rfl, rfl, HM2.out.q, (by decide), rfl, Tryd.size_u8, ?_⟩; intro V3 hP hq; have HM3 : Hid (ResAt w w.heap.size b (V.race (4 + 1)) V3) := Lib.hid (HM2.out.put hP hq); have HR3 := Lib.hid (HR2.out.put hP hbs); clear hP hq))
          go_roundw
          case rel => exact ⟨1, by omega, rfl, HM3.out, HR3.out⟩
          case measure => simp [intOf]
        · have h2 := HRf.out.b.cell 1
          simp only [List.getElem?_toArray, List.getElem?_cons_zero, List.getElem?_cons_succ] at h2
          have HBk : Hid (∀ w, Calls Tryd.prog 80 #[.int .u8 4] w fun e w' => e = .returned (.int .u8 12) ∧ w = w') := Lib.hid (fun w => black_any 4 w (by decide) (by decide))
          go_wp2_with (first
            | (go_at_call 80; refine (HBk.out _).mono ?_; rintro e w' ⟨rfl, rfl⟩)
            | ((with_reducible refine wp_store_cell rfl _ _ _ rfl ?_); refine ⟨b, 10, _, _, _, rfl, rfl, HMf.out.q, (by decide), rfl, Tryd.size_u8, ?_⟩; intro V2 hP hq; have HM2 := Lib.hid (HMf.out.put hP hq); have HR2 := Lib.hid (HRf.out.put hP hbs); clear hP hq)
            | ((with_reducible refine wp_store_cell rfl _ _ _ rfl ?_); refine ⟨b, 15, _, _, _, rfl, rfl, HM2.out.q, (by decide), rfl, Tryd.size_u8, ?_⟩; intro V3 hP hq; have HM3 : Hid (ResAt w w.heap.size b (V.race (4 + 2)) V3) := Lib.hid (HM2.out.put hP hq); have HR3 := Lib.hid (HR2.out.put hP hbs); clear hP hq))
          go_roundw
          case rel => exact ⟨2, by omega, rfl, HM3.out, HR3.out⟩
          case measure => simp [intOf]
        · have h2 := HRf.out.b.cell 2
          simp only [List.getElem?_toArray, List.getElem?_cons_zero, List.getElem?_cons_succ] at h2
          have HBk : Hid (∀ w, Calls Tryd.prog 80 #[.int .u8 3] w fun e w' => e = .returned (.int .u8 11) ∧ w = w') := Lib.hid (fun w => black_any 3 w (by decide) (by decide))
          go_wp2_with (first
            | (go_at_call 80; refine (HBk.out _).mono ?_; rintro e w' ⟨rfl, rfl⟩)
            | ((with_reducible refine wp_store_cell rfl _ _ _ rfl ?_); refine ⟨b, 11, _, _, _, rfl, rfl, HMf.out.q, (by decide), rfl, Tryd.size_u8, ?_⟩; intro V2 hP hq; have HM2 := Lib.hid (HMf.out.put hP hq); have HR2 := Lib.hid (HRf.out.put hP hbs); clear hP hq)
            | ((with_reducible refine wp_store_cell rfl _ _ _ rfl ?_); refine ⟨b, 14, _, _, _, rfl, rfl, HM2.out.q, (by decide), rfl, Tryd.size_u8, ?_⟩; intro V3 hP hq; have HM3 : Hid (ResAt w w.heap.size b (V.race (4 + 3)) V3) := Lib.hid (HM2.out.put hP hq); have HR3 := Lib.hid (HR2.out.put hP hbs); clear hP hq))
          go_roundw
          case rel => exact ⟨3, by omega, rfl, HM3.out, HR3.out⟩
          case measure => simp [intOf]
        · have h2 := HRf.out.b.cell 3
          simp only [List.getElem?_toArray, List.getElem?_cons_zero, List.getElem?_cons_succ] at h2
          have HBk : Hid (∀ w, Calls Tryd.prog 80 #[.int .u8 2] w fun e w' => e = .returned (.int .u8 10) ∧ w = w') := Lib.hid (fun w => black_any 2 w (by decide) (by decide))
          go_wp2_with (first
            | (go_at_call 80; refine (HBk.out _).mono ?_; rintro e w' ⟨rfl, rfl⟩)
            | ((with_reducible refine wp_store_cell rfl _ _ _ rfl ?_); refine ⟨b, 12, _, _, _, rfl, rfl, HMf.out.q, (by decide), rfl, Tryd.size_u8, ?_⟩; intro V2 hP hq; have HM2 := Lib.hid (HMf.out.put hP hq); have HR2 := Lib.hid (HRf.out.put hP hbs); clear hP hq)
            | ((with_reducible refine wp_store_cell rfl _ _ _ rfl ?_); refine ⟨b, 13, _, _, _, rfl, rfl, HM2.out.q, (by decide), rfl, Tryd.size_u8, ?_⟩; intro V3 hP hq; have HM3 : Hid (ResAt w w.heap.size b (V.race (4 + 4)) V3) := Lib.hid (HM2.out.put hP hq); have HR3 := Lib.hid (HR2.out.put hP hbs); clear hP hq))
          go_roundw
          case rel => exact ⟨4, by omega, rfl, HM3.out, HR3.out⟩
          case measure => simp [intOf]
        · go_wp2
          go_roundw
          case rel => exact ⟨2, by omega, rfl, HMf.out, HRf.out⟩
          case measure => simp [intOf]
    · go_wp2_with (first
        | ((with_reducible refine wp_load_box_g rfl _ rfl ?_); refine ⟨_, _, rfl, HM.out.q, ?_⟩)
        | ((with_reducible refine wp_store_box rfl _ _ rfl ?_); refine ⟨w.heap.size, V.racing, rfl, rfl, ⟨_, HM.out.res, (by kernel_rfl)⟩, ?_⟩; intro W9 hP9 hq9))
      exact bodyPost_ret (v := .agg (posC V.racing)) (results_cell_row Tryd.results47 _ _ w.heap.size 31 _ (0, 0) _ rfl hq9.heap Tryd.underlying31 rfl (posC_info _)) rfl ⟨rfl, hP9.below HM.out.below (Nat.le_refl _)⟩

namespace V
/-- A variant's first position. -/
def startAll (v : Nat) : Nat → Int := if v = 7 then horde else if v = 8 then racing else start v
end V
set_option maxRecDepth 100000 in
set_option maxHeartbeats 4000000 in
theorem startAll_any (v : Nat) (w : World) (hv : v < 9) : Calls Tryd.prog 23 #[.int .u8 (v : Int)] w fun e w' => e = .returned (.tuple #[.agg (posC (V.startAll v)), .bool true]) ∧ Below w.heap.size w w' := by
  by_cases h7 : v = 7
  · have E := Lib.hid (show V.startAll v = V.horde by unfold V.startAll; rw [if_pos h7])
    rw [E.out]
    have d9 : decide ((9 : Int) ≤ (v : Int)) = false := decide_eq_false (by omega)
    have d7 : ((v : Int) == 7) = true := by simp; omega
    clear h7 hv
    have hz := heap_alloc_new w (.cells Tryd.zeroCells31 31)
    have hb0 : Below w.heap.size w (w.alloc (.cells Tryd.zeroCells31 31)) := (Below.refl _ _).alloc (Nat.le_refl _) _
    have hs0 : (w.alloc (.cells Tryd.zeroCells31 31)).heap.size = w.heap.size + 1 := by simp
    obtain ⟨W0, hW0⟩ : ∃ W, w.alloc (.cells Tryd.zeroCells31 31) = W := ⟨_, rfl⟩
    rw [hW0] at hz hb0 hs0
    have HZ := Lib.hid (And.intro hz hb0)
    clear hz hb0
    go_enter Tryd.func23, Tryd.ntmps23
    go_wp2_with (first
      | (go_at_call 46; refine (horde_any _).mono ?_; rintro e w1 ⟨rfl, hb1⟩; have HZw1 := Lib.hid (show w1.heap[w.heap.size]? = some (.cells Tryd.zeroCells31 31 (0, 0)) ∧ Below w.heap.size w w1 from ⟨(hb1.block _ (by omega)).trans HZ.out.1, HZ.out.2.trans (hb1.mono (by omega))⟩); have hsw1 : w.heap.size < w1.heap.size := (by have := hb1.size; omega); clear hb1)
      | ((with_reducible refine wp_store_box rfl _ _ rfl ?_); refine ⟨w.heap.size, _, rfl, rfl, ⟨_, HZw1.out.1, (by kernel_rfl)⟩, ?_⟩; intro W3 hP3 hq3))
    exact bodyPost_ret (v := .tuple #[.agg (posC V.horde), .bool true]) (results_row_tmp Tryd.results23 _ _ w.heap.size 31 _ (0, 0) _ rfl hq3.heap Tryd.underlying31 rfl (posC_info _)) rfl ⟨rfl, hP3.below HZw1.out.2 (Nat.le_refl _)⟩
  · by_cases h8 : v = 8
    · have E := Lib.hid (show V.startAll v = V.racing by unfold V.startAll; rw [if_neg h7, if_pos h8])
      rw [E.out]
      have d9 : decide ((9 : Int) ≤ (v : Int)) = false := decide_eq_false (by omega)
      have d7 : ((v : Int) == 7) = false := by simp; omega
      have d8 : ((v : Int) == 8) = true := by simp; omega
      clear h7 h8 hv
      have hz := heap_alloc_new w (.cells Tryd.zeroCells31 31)
      have hb0 : Below w.heap.size w (w.alloc (.cells Tryd.zeroCells31 31)) := (Below.refl _ _).alloc (Nat.le_refl _) _
      have hs0 : (w.alloc (.cells Tryd.zeroCells31 31)).heap.size = w.heap.size + 1 := by simp
      obtain ⟨W0, hW0⟩ : ∃ W, w.alloc (.cells Tryd.zeroCells31 31) = W := ⟨_, rfl⟩
      rw [hW0] at hz hb0 hs0
      have HZ := Lib.hid (And.intro hz hb0)
      clear hz hb0
      go_enter Tryd.func23, Tryd.ntmps23
      go_wp2_with (first
        | (go_at_call 47; refine (racing_any _).mono ?_; rintro e w1 ⟨rfl, hb1⟩; have HZw1 := Lib.hid (show w1.heap[w.heap.size]? = some (.cells Tryd.zeroCells31 31 (0, 0)) ∧ Below w.heap.size w w1 from ⟨(hb1.block _ (by omega)).trans HZ.out.1, HZ.out.2.trans (hb1.mono (by omega))⟩); have hsw1 : w.heap.size < w1.heap.size := (by have := hb1.size; omega); clear hb1)
        | ((with_reducible refine wp_store_box rfl _ _ rfl ?_); refine ⟨w.heap.size, _, rfl, rfl, ⟨_, HZw1.out.1, (by kernel_rfl)⟩, ?_⟩; intro W3 hP3 hq3))
      exact bodyPost_ret (v := .tuple #[.agg (posC V.racing), .bool true]) (results_row_tmp Tryd.results23 _ _ w.heap.size 31 _ (0, 0) _ rfl hq3.heap Tryd.underlying31 rfl (posC_info _)) rfl ⟨rfl, hP3.below HZw1.out.2 (Nat.le_refl _)⟩
    · rw [show V.startAll v = V.start v by unfold V.startAll; rw [if_neg h7, if_neg h8]]
      exact start_any v w (by omega)
end Go.Proofs.YtlphjjekamhnlaaDoor
