/- The program's package attack: By (every way), On, king, Check, Checkers. -/
import Derived.Test.YtdfgpbighadplaaDoorBy
import Derived.Test.YtdfgpbighadplaaDoorRules
namespace Go.Proofs.YtdfgpbighadplaaDoor
open Go.RowKit Go.Sort

set_option maxRecDepth 100000 in
set_option maxHeartbeats 1000000 in
theorem by_any (c : Nat → Int) (s color : Int) (w : World) (hc : BdOk c) (hT : Tb w) :
    Calls Tryd.prog 11 #[.agg (posC c), .int .i64 s, .int .u8 color] w fun e w' => e = .returned (.int .u64 (U (K.by c s color))) ∧ Below w.heap.size w w' := by
  by_cases h1 : K.there s = true
  · by_cases h2 : color ≤ 1
    · exact by_in c s color w hc hT h1 h2
    · have e := Lib.hid (show K.by c s color = 0#64 by unfold K.by; rw [if_neg (fun h => h2 h.2)])
      have H1 := Lib.hid h1
      clear h1
      go_enter Tryd.func11, Tryd.ntmps11
      go_wp2_with (go_at_call 25; refine (there_eq _ true _ H1.out).mono ?_; rintro e w' ⟨rfl, rfl⟩)
      go_ret
      exact ⟨ret_int (by rw [e.out]; rfl), (((Below.refl _ _).alloc (Nat.le_refl _) _).alloc (by simp) _).alloc (by simp <;> omega) _⟩
  · have e := Lib.hid (show K.by c s color = 0#64 by unfold K.by; rw [if_neg (fun h => h1 h.1)])
    have H1 := Lib.hid (show K.there s = false by simpa using h1)
    clear h1
    go_enter Tryd.func11, Tryd.ntmps11
    go_wp2_with (go_at_call 25; refine (there_eq _ false _ H1.out).mono ?_; rintro e w' ⟨rfl, rfl⟩)
    go_ret
    exact ⟨ret_int (by rw [e.out]; rfl), (((Below.refl _ _).alloc (Nat.le_refl _) _).alloc (by simp) _).alloc (by simp <;> omega) _⟩

def K.on (c : Nat → Int) (s color : Int) : Bool := U (K.by c s color) != 0

set_option maxRecDepth 100000 in
set_option maxHeartbeats 1000000 in
theorem on_any (c : Nat → Int) (s color : Int) (w : World) (hc : BdOk c) (hT : Tb w) :
    Calls Tryd.prog 12 #[.agg (posC c), .int .i64 s, .int .u8 color] w fun e w' => e = .returned (.bool (K.on c s color)) ∧ Below w.heap.size w w' := by
  have Hc := Lib.hid hc
  have HT := Lib.hid (tb_below hT ((Below.refl w.heap.size w).alloc (Nat.le_refl _) (.cells (posC c) 31)))
  clear hc hT
  go_enter Tryd.func12, Tryd.ntmps12
  go_wp2_with (first | ((with_reducible refine wp_load_pos rfl _ rfl c ?_ ?_); · (exact ⟨_, _, _, rfl, heap_alloc_new _ _⟩)) | (go_at_call 11; refine (by_any c _ _ _ Hc.out HT.out).mono ?_; rintro e w1 ⟨rfl, hb1⟩))
  go_ret
  exact ⟨rfl, ((Below.refl _ _).alloc (Nat.le_refl _) _).trans (hb1.mono (by simp))⟩

theorem royal_int (v color : Int) (b : Bool) (w : World) (hv : 0 ≤ v) (h0 : 0 ≤ color) (h : V.royal v color = b) :
    Calls Tryd.prog 51 #[.int .u8 v, .int .u8 color] w fun e w' => e = .returned (.bool b) ∧ Below w.heap.size w w' := by
  have := royal_any v.toNat color w h0
  rw [Int.toNat_of_nonneg hv, h] at this
  exact this

/-- The square of a color's king, if it may be in check. -/
def K.lost (c : Nat → Int) (color : Int) : Bool := decide (S.find c color 6 < 0) || (c 0 == 3 && (U (bAnd (R.king (S.find c color 6)) (S.of c (K.oc color) 6)) != 0))
def K.kingOk (c : Nat → Int) (color : Int) : Bool := V.royal (c 0) color && !K.lost c color
def K.kingAt (c : Nat → Int) (color : Int) : Int := if K.kingOk c color then S.find c color 6 else 0

set_option maxRecDepth 100000 in
set_option maxHeartbeats 1000000 in
theorem aking_any (c : Nat → Int) (color : Int) (w : World) (hc : BdOk c) (hT : Tb w) (hv : 0 ≤ c 0) (h0 : 0 ≤ color) :
    Calls Tryd.prog 32 #[.agg (posC c), .int .u8 color] w fun e w' => e = .returned (.tuple #[.int .i64 (K.kingAt c color), .bool (K.kingOk c color)]) ∧ Below w.heap.size w w' := by
  have Hc := Lib.hid hc
  have HT := Lib.hid (tb_below hT ((Below.refl w.heap.size w).alloc (Nat.le_refl _) (.cells (posC c) 31)))
  clear hc hT
  cases hr : V.royal (c 0) color
  · have e2 := Lib.hid (show K.kingOk c color = false by unfold K.kingOk; rw [hr]; rfl)
    have e1 := Lib.hid (show K.kingAt c color = 0 by unfold K.kingAt; rw [e2.out]; rfl)
    go_enter Tryd.func32, Tryd.ntmps32
    go_wp2_with (go_at_call 51; refine (royal_int _ _ false _ hv h0 hr).mono ?_; rintro e w1 ⟨rfl, hb1⟩)
    go_ret2
    exact ⟨by rw [e1.out, e2.out]; rfl, ((Below.refl _ _).alloc (Nat.le_refl _) _).trans (hb1.mono (by simp))⟩
  · cases hs : decide (S.find c color 6 < 0)
    · cases hv3 : (c 0 == 3)
      · have e2 := Lib.hid (show K.kingOk c color = true by unfold K.kingOk K.lost; rw [hr, hs, hv3]; rfl)
        have e1 := Lib.hid (show K.kingAt c color = S.find c color 6 by unfold K.kingAt; rw [e2.out]; rfl)
        go_enter Tryd.func32, Tryd.ntmps32
        go_wp2_with (first | ((with_reducible refine wp_load_pos rfl _ rfl c ?_ ?_); · (exact ⟨_, _, _, rfl, (hb1.block _ (by simp)).trans (heap_alloc_new _ _)⟩)) | (go_at_call 51; refine (royal_int _ _ true _ hv h0 hr).mono ?_; rintro e w1 ⟨rfl, hb1⟩) | (go_at_call 52; refine (find_any c _ _ _ Hc.out (tb_below HT.out hb1)).mono ?_; rintro e w2 ⟨rfl, hb2⟩))
        have hb := below_next hb1 hb2
        have hW : Below w.heap.size w w2 := ((Below.refl _ _).alloc (Nat.le_refl _) _).trans (hb.mono (by simp))
        have hp : w2.heap[w.heap.size]? = some (.cells (posC c) 31 (0, 0)) := (hb.block _ (by simp)).trans (heap_alloc_new _ _)
        have hz : w.heap.size < w2.heap.size := (Array.getElem?_eq_some_iff.1 hp).1
        have hcv : w2.cell? ⟨w.heap.size, 0, none⟩ = some (.int .u8 (c 0)) := by simp only [World.cell?, hp]; exact posC_0 c
        refine region_below (by kernel_rfl) (by kernel_rfl) ?_
        repeat (first
          | go_big_quiet_step (first
            | (go_at_call 46; exact quiet_below (king_any _ _))
            | (go_at_call 28; exact quiet_below (of_any c _ _ _ Hc.out)))
          | (go_big_quiet_want; refine quiet_load_pos _ rfl c ⟨_, _, _, rfl, fun w' ⟨p, e⟩ => (by rw [e, heap_grow _ _ _ _ hz]; exact hp)⟩ ?_; simp only [Act.put, List.setIfInBounds_toArray, List.set_cons_succ, List.set_cons_zero]; go_big_quiet_on))
        refine wpQuiet_nil ?_
        intro w3 hb3
        have hW3 := below_next hW hb3

        clear hb3 hW hp hz hcv hb hb1 hb2
        go_wp2
        go_ret2
        exact ⟨by rw [e1.out, e2.out]; rfl, hW3⟩
      · cases hn : (U (bAnd (R.king (S.find c color 6)) (S.of c (K.oc color) 6)) != 0)
        · have e2 := Lib.hid (show K.kingOk c color = true by unfold K.kingOk K.lost; rw [hr, hs, hv3, hn]; rfl)
          have e1 := Lib.hid (show K.kingAt c color = S.find c color 6 by unfold K.kingAt; rw [e2.out]; rfl)
          unfold K.oc at hn
          go_enter Tryd.func32, Tryd.ntmps32
          go_wp2_with (first | ((with_reducible refine wp_load_pos rfl _ rfl c ?_ ?_); · (exact ⟨_, _, _, rfl, (hb1.block _ (by simp)).trans (heap_alloc_new _ _)⟩)) | (go_at_call 51; refine (royal_int _ _ true _ hv h0 hr).mono ?_; rintro e w1 ⟨rfl, hb1⟩) | (go_at_call 52; refine (find_any c _ _ _ Hc.out (tb_below HT.out hb1)).mono ?_; rintro e w2 ⟨rfl, hb2⟩))
          have hb := below_next hb1 hb2
          have hW : Below w.heap.size w w2 := ((Below.refl _ _).alloc (Nat.le_refl _) _).trans (hb.mono (by simp))
          have hp : w2.heap[w.heap.size]? = some (.cells (posC c) 31 (0, 0)) := (hb.block _ (by simp)).trans (heap_alloc_new _ _)
          have hz : w.heap.size < w2.heap.size := (Array.getElem?_eq_some_iff.1 hp).1
          have hcv : w2.cell? ⟨w.heap.size, 0, none⟩ = some (.int .u8 (c 0)) := by simp only [World.cell?, hp]; exact posC_0 c
          refine region_below (by kernel_rfl) (by kernel_rfl) ?_
          repeat (first
            | go_big_quiet_step (first
              | (go_at_call 46; exact quiet_below (king_any _ _))
              | (go_at_call 28; exact quiet_below (of_any c _ _ _ Hc.out)))
            | (go_big_quiet_want; refine quiet_load_pos _ rfl c ⟨_, _, _, rfl, fun w' ⟨p, e⟩ => (by rw [e, heap_grow _ _ _ _ hz]; exact hp)⟩ ?_; simp only [Act.put, List.setIfInBounds_toArray, List.set_cons_succ, List.set_cons_zero]; go_big_quiet_on))
          refine wpQuiet_nil ?_
          intro w3 hb3
          have hW3 := below_next hW hb3

          clear hb3 hW hp hz hcv hb hb1 hb2
          go_wp2
          go_ret2
          exact ⟨by rw [e1.out, e2.out]; rfl, hW3⟩
        · have e2 := Lib.hid (show K.kingOk c color = false by unfold K.kingOk K.lost; rw [hr, hs, hv3, hn]; rfl)
          have e1 := Lib.hid (show K.kingAt c color = 0 by unfold K.kingAt; rw [e2.out]; rfl)
          unfold K.oc at hn
          go_enter Tryd.func32, Tryd.ntmps32
          go_wp2_with (first | ((with_reducible refine wp_load_pos rfl _ rfl c ?_ ?_); · (exact ⟨_, _, _, rfl, (hb1.block _ (by simp)).trans (heap_alloc_new _ _)⟩)) | (go_at_call 51; refine (royal_int _ _ true _ hv h0 hr).mono ?_; rintro e w1 ⟨rfl, hb1⟩) | (go_at_call 52; refine (find_any c _ _ _ Hc.out (tb_below HT.out hb1)).mono ?_; rintro e w2 ⟨rfl, hb2⟩))
          have hb := below_next hb1 hb2
          have hW : Below w.heap.size w w2 := ((Below.refl _ _).alloc (Nat.le_refl _) _).trans (hb.mono (by simp))
          have hp : w2.heap[w.heap.size]? = some (.cells (posC c) 31 (0, 0)) := (hb.block _ (by simp)).trans (heap_alloc_new _ _)
          have hz : w.heap.size < w2.heap.size := (Array.getElem?_eq_some_iff.1 hp).1
          have hcv : w2.cell? ⟨w.heap.size, 0, none⟩ = some (.int .u8 (c 0)) := by simp only [World.cell?, hp]; exact posC_0 c
          refine region_below (by kernel_rfl) (by kernel_rfl) ?_
          repeat (first
            | go_big_quiet_step (first
              | (go_at_call 46; exact quiet_below (king_any _ _))
              | (go_at_call 28; exact quiet_below (of_any c _ _ _ Hc.out)))
            | (go_big_quiet_want; refine quiet_load_pos _ rfl c ⟨_, _, _, rfl, fun w' ⟨p, e⟩ => (by rw [e, heap_grow _ _ _ _ hz]; exact hp)⟩ ?_; simp only [Act.put, List.setIfInBounds_toArray, List.set_cons_succ, List.set_cons_zero]; go_big_quiet_on))
          refine wpQuiet_nil ?_
          intro w3 hb3
          have hW3 := below_next hW hb3

          clear hb3 hW hp hz hcv hb hb1 hb2
          go_wp2
          go_ret2
          exact ⟨by rw [e1.out, e2.out]; rfl, hW3⟩
    · have e2 := Lib.hid (show K.kingOk c color = false by unfold K.kingOk K.lost; rw [hr, hs]; rfl)
      have e1 := Lib.hid (show K.kingAt c color = 0 by unfold K.kingAt; rw [e2.out]; rfl)
      go_enter Tryd.func32, Tryd.ntmps32
      go_wp2_with (first | ((with_reducible refine wp_load_pos rfl _ rfl c ?_ ?_); · (exact ⟨_, _, _, rfl, (hb1.block _ (by simp)).trans (heap_alloc_new _ _)⟩)) | (go_at_call 51; refine (royal_int _ _ true _ hv h0 hr).mono ?_; rintro e w1 ⟨rfl, hb1⟩) | (go_at_call 52; refine (find_any c _ _ _ Hc.out (tb_below HT.out hb1)).mono ?_; rintro e w2 ⟨rfl, hb2⟩))
      have hb := below_next hb1 hb2
      have hW : Below w.heap.size w w2 := ((Below.refl _ _).alloc (Nat.le_refl _) _).trans (hb.mono (by simp))
      have hp : w2.heap[w.heap.size]? = some (.cells (posC c) 31 (0, 0)) := (hb.block _ (by simp)).trans (heap_alloc_new _ _)
      have hz : w.heap.size < w2.heap.size := (Array.getElem?_eq_some_iff.1 hp).1
      have hcv : w2.cell? ⟨w.heap.size, 0, none⟩ = some (.int .u8 (c 0)) := by simp only [World.cell?, hp]; exact posC_0 c
      refine region_below (by kernel_rfl) (by kernel_rfl) ?_
      repeat (first
        | go_big_quiet_step (first
          | (go_at_call 46; exact quiet_below (king_any _ _))
          | (go_at_call 28; exact quiet_below (of_any c _ _ _ Hc.out)))
        | (go_big_quiet_want; refine quiet_load_pos _ rfl c ⟨_, _, _, rfl, fun w' ⟨p, e⟩ => (by rw [e, heap_grow _ _ _ _ hz]; exact hp)⟩ ?_; simp only [Act.put, List.setIfInBounds_toArray, List.set_cons_succ, List.set_cons_zero]; go_big_quiet_on))
      refine wpQuiet_nil ?_
      intro w3 hb3
      have hW3 := below_next hW hb3

      clear hb3 hW hp hz hcv hb hb1 hb2
      go_wp2
      go_ret2
      exact ⟨by rw [e1.out, e2.out]; rfl, hW3⟩

end Go.Proofs.YtdfgpbighadplaaDoor
