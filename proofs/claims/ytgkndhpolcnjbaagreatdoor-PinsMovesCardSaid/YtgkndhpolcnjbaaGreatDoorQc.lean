/- Several texts in one: BaseC. -/
import Derived.Deep.RegionHeld3
import Derived.Test.YtgkndhpolcnjbaaGreatDoorRows
import Derived.WalkKit
import Derived.ProofKit
import Derived.LaidMore
import Derived.OpenShut
import Derived.Stop.Joined
import Derived.SevenTiedAt
import Derived.Test.YtgkndhpolcnjbaaGreatDoorQb
namespace Go.Proofs.YtgkndhpolcnjbaaGreatDoor
open Go.RowKit Go.Sort
set_option maxRecDepth 100000 in
set_option maxHeartbeats 1000000 in
theorem by_any (c : Nat → Int) (s color : Int) (w : World) (hc : BdOk c) (hT : Tb w) :
    Calls Tryz.prog 81 #[.agg (posC c), .int .i64 s, .int .u8 color] w fun e w' => e = .returned (.int .u64 (U (K.by c s color))) ∧ Below w.heap.size w w' := by
  by_cases h1 : K.there s = true
  · by_cases h2 : color ≤ 1
    · exact by_in c s color w hc hT h1 h2
    · have e := Lib.hid (show K.by c s color = 0#64 by unfold K.by; rw [if_neg (fun h => h2 h.2)])
      have H1 := Lib.hid h1
      clear h1
      go_enter Tryz.func81, Tryz.ntmps81
      go_wp2_with (go_at_call 142; refine (there_eq _ true _ H1.out).mono ?_; rintro e w' ⟨rfl, rfl⟩)
      go_ret
      exact ⟨ret_int (by rw [e.out]; rfl), (((Below.refl _ _).alloc (Nat.le_refl _) _).alloc (by simp) _).alloc (by simp <;> omega) _⟩
  · have e := Lib.hid (show K.by c s color = 0#64 by unfold K.by; rw [if_neg (fun h => h1 h.1)])
    have H1 := Lib.hid (show K.there s = false by simpa using h1)
    clear h1
    go_enter Tryz.func81, Tryz.ntmps81
    go_wp2_with (go_at_call 142; refine (there_eq _ false _ H1.out).mono ?_; rintro e w' ⟨rfl, rfl⟩)
    go_ret
    exact ⟨ret_int (by rw [e.out]; rfl), (((Below.refl _ _).alloc (Nat.le_refl _) _).alloc (by simp) _).alloc (by simp <;> omega) _⟩
def K.on (c : Nat → Int) (s color : Int) : Bool := U (K.by c s color) != 0
set_option maxRecDepth 100000 in
set_option maxHeartbeats 1000000 in
theorem on_any (c : Nat → Int) (s color : Int) (w : World) (hc : BdOk c) (hT : Tb w) :
    Calls Tryz.prog 150 #[.agg (posC c), .int .i64 s, .int .u8 color] w fun e w' => e = .returned (.bool (K.on c s color)) ∧ Below w.heap.size w w' := by
  have Hc := Lib.hid hc
  have HT := Lib.hid (tb_below hT ((Below.refl w.heap.size w).alloc (Nat.le_refl _) (.cells (posC c) 31)))
  clear hc hT
  go_enter Tryz.func150, Tryz.ntmps150
  go_wp2_with (first | ((with_reducible refine wp_load_pos rfl _ rfl c ?_ ?_); · (exact ⟨_, _, _, rfl, heap_alloc_new _ _⟩)) | (go_at_call 81; refine (by_any c _ _ _ Hc.out HT.out).mono ?_; rintro e w1 ⟨rfl, hb1⟩))
  go_ret
  exact ⟨rfl, ((Below.refl _ _).alloc (Nat.le_refl _) _).trans (hb1.mono (by simp))⟩
theorem royal_int (v color : Int) (b : Bool) (w : World) (hv : 0 ≤ v) (h0 : 0 ≤ color) (h : V.royal v color = b) :
    Calls Tryz.prog 86 #[.int .u8 v, .int .u8 color] w fun e w' => e = .returned (.bool b) ∧ Below w.heap.size w w' := by
  have := royal_any v.toNat color w h0
  rw [Int.toNat_of_nonneg hv, h] at this
  exact this
/-- The square of a color's king, if it may be in check. -/
def K.lost (c : Nat → Int) (color : Int) : Bool := decide (S.find c color 6 < 0) || (c 0 == 3 && (U (bAnd (R.king (S.find c color 6)) (S.of c (K.oc color) 6)) != 0))
def K.kingOk (c : Nat → Int) (color : Int) : Bool := V.royal (c 0) color && !K.lost c color
def K.kingAt (c : Nat → Int) (color : Int) : Int := if K.kingOk c color then S.find c color 6 else 0
set_option maxRecDepth 100000 in
set_option maxHeartbeats 1000000 in
theorem aking_any (c : Nat → Int) (color : Int) (w : World) (hc : BdOk c) (hT : Tb w) (hv : 0 ≤ c 0) (h0 : 0 ≤ color) :
    Calls Tryz.prog 149 #[.agg (posC c), .int .u8 color] w fun e w' => e = .returned (.tuple #[.int .i64 (K.kingAt c color), .bool (K.kingOk c color)]) ∧ Below w.heap.size w w' := by
  have Hc := Lib.hid hc
  have HT := Lib.hid (tb_below hT ((Below.refl w.heap.size w).alloc (Nat.le_refl _) (.cells (posC c) 31)))
  clear hc hT
  cases hr : V.royal (c 0) color
  · have e2 := Lib.hid (show K.kingOk c color = false by unfold K.kingOk; rw [hr]; rfl)
    have e1 := Lib.hid (show K.kingAt c color = 0 by unfold K.kingAt; rw [e2.out]; rfl)
    go_enter Tryz.func149, Tryz.ntmps149
    go_wp2_with (go_at_call 86; refine (royal_int _ _ false _ hv h0 hr).mono ?_; rintro e w1 ⟨rfl, hb1⟩)
    go_ret2
    exact ⟨by rw [e1.out, e2.out]; rfl, ((Below.refl _ _).alloc (Nat.le_refl _) _).trans (hb1.mono (by simp))⟩
  · cases hs : decide (S.find c color 6 < 0)
    · cases hv3 : (c 0 == 3)
      · have e2 := Lib.hid (show K.kingOk c color = true by unfold K.kingOk K.lost; rw [hr, hs, hv3]; rfl)
        have e1 := Lib.hid (show K.kingAt c color = S.find c color 6 by unfold K.kingAt; rw [e2.out]; rfl)
        go_enter Tryz.func149, Tryz.ntmps149
        go_wp2_with (first | ((with_reducible refine wp_load_pos rfl _ rfl c ?_ ?_); · (exact ⟨_, _, _, rfl, (hb1.block _ (by simp)).trans (heap_alloc_new _ _)⟩)) | (go_at_call 86; refine (royal_int _ _ true _ hv h0 hr).mono ?_; rintro e w1 ⟨rfl, hb1⟩) | (go_at_call 80; refine (find_any c _ _ _ Hc.out (tb_below HT.out hb1)).mono ?_; rintro e w2 ⟨rfl, hb2⟩))
        have hb := below_next hb1 hb2
        have hW : Below w.heap.size w w2 := ((Below.refl _ _).alloc (Nat.le_refl _) _).trans (hb.mono (by simp))
        have hp : w2.heap[w.heap.size]? = some (.cells (posC c) 31 (0, 0)) := (hb.block _ (by simp)).trans (heap_alloc_new _ _)
        have hz : w.heap.size < w2.heap.size := (Array.getElem?_eq_some_iff.1 hp).1
        have hcv : w2.cell? ⟨w.heap.size, 0, none⟩ = some (.int .u8 (c 0)) := by simp only [World.cell?, hp]; exact posC_0 c
        refine region_below (by kernel_rfl) (by kernel_rfl) ?_
        repeat (first
          | go_big_quiet_step (first
            | (go_at_call 56; exact quiet_below (king_any _ _))
            | (go_at_call 58; exact quiet_below (of_any c _ _ _ Hc.out)))
          | (go_big_quiet_want; refine quiet_load_pos _ rfl c ⟨_, _, _, rfl, fun w' ⟨p, e⟩ => (by rw [e, heap_grow _ _ _ _ hz]; exact hp)⟩ ?_; simp only [Act.put, List.setIfInBounds_toArray, List.set_cons_succ, List.set_cons_zero]; go_big_quiet_on))
        refine wpQuiet_nil ?_
        intro w3 hb3
        have hW3 := below_next hW hb3

        clear hb3 hW hp hz hcv hb hb1 hb2
        go_wp2
        go_ret2
        exact ⟨by rw [e1.out, e2.out]; rfl, hW3⟩
      · cases hn : (U (bAnd (R.king (S.find c color 6)) (S.of c (K.oc color) 6)) != 0)
        · have e2 := Lib.hid (show K.kingOk c color = true by unfold K.kingOk K.lost; rw [hr, hs, hv3, hn]; rfl)
          have e1 := Lib.hid (show K.kingAt c color = S.find c color 6 by unfold K.kingAt; rw [e2.out]; rfl)
          unfold K.oc at hn
          go_enter Tryz.func149, Tryz.ntmps149
          go_wp2_with (first | ((with_reducible refine wp_load_pos rfl _ rfl c ?_ ?_); · (exact ⟨_, _, _, rfl, (hb1.block _ (by simp)).trans (heap_alloc_new _ _)⟩)) | (go_at_call 86; refine (royal_int _ _ true _ hv h0 hr).mono ?_; rintro e w1 ⟨rfl, hb1⟩) | (go_at_call 80; refine (find_any c _ _ _ Hc.out (tb_below HT.out hb1)).mono ?_; rintro e w2 ⟨rfl, hb2⟩))
          have hb := below_next hb1 hb2
          have hW : Below w.heap.size w w2 := ((Below.refl _ _).alloc (Nat.le_refl _) _).trans (hb.mono (by simp))
          have hp : w2.heap[w.heap.size]? = some (.cells (posC c) 31 (0, 0)) := (hb.block _ (by simp)).trans (heap_alloc_new _ _)
          have hz : w.heap.size < w2.heap.size := (Array.getElem?_eq_some_iff.1 hp).1
          have hcv : w2.cell? ⟨w.heap.size, 0, none⟩ = some (.int .u8 (c 0)) := by simp only [World.cell?, hp]; exact posC_0 c
          refine region_below (by kernel_rfl) (by kernel_rfl) ?_
          repeat (first
            | go_big_quiet_step (first
              | (go_at_call 56; exact quiet_below (king_any _ _))
              | (go_at_call 58; exact quiet_below (of_any c _ _ _ Hc.out)))
            | (go_big_quiet_want; refine quiet_load_pos _ rfl c ⟨_, _, _, rfl, fun w' ⟨p, e⟩ => (by rw [e, heap_grow _ _ _ _ hz]; exact hp)⟩ ?_; simp only [Act.put, List.setIfInBounds_toArray, List.set_cons_succ, List.set_cons_zero]; go_big_quiet_on))
          refine wpQuiet_nil ?_
          intro w3 hb3
          have hW3 := below_next hW hb3

          clear hb3 hW hp hz hcv hb hb1 hb2
          go_wp2
          go_ret2
          exact ⟨by rw [e1.out, e2.out]; rfl, hW3⟩
        · have e2 := Lib.hid (show K.kingOk c color = false by unfold K.kingOk K.lost; rw [hr, hs, hv3, hn]; rfl)
          have e1 := Lib.hid (show K.kingAt c color = 0 by unfold K.kingAt; rw [e2.out]; rfl)
          unfold K.oc at hn
          go_enter Tryz.func149, Tryz.ntmps149
          go_wp2_with (first | ((with_reducible refine wp_load_pos rfl _ rfl c ?_ ?_); · (exact ⟨_, _, _, rfl, (hb1.block _ (by simp)).trans (heap_alloc_new _ _)⟩)) | (go_at_call 86; refine (royal_int _ _ true _ hv h0 hr).mono ?_; rintro e w1 ⟨rfl, hb1⟩) | (go_at_call 80; refine (find_any c _ _ _ Hc.out (tb_below HT.out hb1)).mono ?_; rintro e w2 ⟨rfl, hb2⟩))
          have hb := below_next hb1 hb2
          have hW : Below w.heap.size w w2 := ((Below.refl _ _).alloc (Nat.le_refl _) _).trans (hb.mono (by simp))
          have hp : w2.heap[w.heap.size]? = some (.cells (posC c) 31 (0, 0)) := (hb.block _ (by simp)).trans (heap_alloc_new _ _)
          have hz : w.heap.size < w2.heap.size := (Array.getElem?_eq_some_iff.1 hp).1
          have hcv : w2.cell? ⟨w.heap.size, 0, none⟩ = some (.int .u8 (c 0)) := by simp only [World.cell?, hp]; exact posC_0 c
          refine region_below (by kernel_rfl) (by kernel_rfl) ?_
          repeat (first
            | go_big_quiet_step (first
              | (go_at_call 56; exact quiet_below (king_any _ _))
              | (go_at_call 58; exact quiet_below (of_any c _ _ _ Hc.out)))
            | (go_big_quiet_want; refine quiet_load_pos _ rfl c ⟨_, _, _, rfl, fun w' ⟨p, e⟩ => (by rw [e, heap_grow _ _ _ _ hz]; exact hp)⟩ ?_; simp only [Act.put, List.setIfInBounds_toArray, List.set_cons_succ, List.set_cons_zero]; go_big_quiet_on))
          refine wpQuiet_nil ?_
          intro w3 hb3
          have hW3 := below_next hW hb3

          clear hb3 hW hp hz hcv hb hb1 hb2
          go_wp2
          go_ret2
          exact ⟨by rw [e1.out, e2.out]; rfl, hW3⟩
    · have e2 := Lib.hid (show K.kingOk c color = false by unfold K.kingOk K.lost; rw [hr, hs]; rfl)
      have e1 := Lib.hid (show K.kingAt c color = 0 by unfold K.kingAt; rw [e2.out]; rfl)
      go_enter Tryz.func149, Tryz.ntmps149
      go_wp2_with (first | ((with_reducible refine wp_load_pos rfl _ rfl c ?_ ?_); · (exact ⟨_, _, _, rfl, (hb1.block _ (by simp)).trans (heap_alloc_new _ _)⟩)) | (go_at_call 86; refine (royal_int _ _ true _ hv h0 hr).mono ?_; rintro e w1 ⟨rfl, hb1⟩) | (go_at_call 80; refine (find_any c _ _ _ Hc.out (tb_below HT.out hb1)).mono ?_; rintro e w2 ⟨rfl, hb2⟩))
      have hb := below_next hb1 hb2
      have hW : Below w.heap.size w w2 := ((Below.refl _ _).alloc (Nat.le_refl _) _).trans (hb.mono (by simp))
      have hp : w2.heap[w.heap.size]? = some (.cells (posC c) 31 (0, 0)) := (hb.block _ (by simp)).trans (heap_alloc_new _ _)
      have hz : w.heap.size < w2.heap.size := (Array.getElem?_eq_some_iff.1 hp).1
      have hcv : w2.cell? ⟨w.heap.size, 0, none⟩ = some (.int .u8 (c 0)) := by simp only [World.cell?, hp]; exact posC_0 c
      refine region_below (by kernel_rfl) (by kernel_rfl) ?_
      repeat (first
        | go_big_quiet_step (first
          | (go_at_call 56; exact quiet_below (king_any _ _))
          | (go_at_call 58; exact quiet_below (of_any c _ _ _ Hc.out)))
        | (go_big_quiet_want; refine quiet_load_pos _ rfl c ⟨_, _, _, rfl, fun w' ⟨p, e⟩ => (by rw [e, heap_grow _ _ _ _ hz]; exact hp)⟩ ?_; simp only [Act.put, List.setIfInBounds_toArray, List.set_cons_succ, List.set_cons_zero]; go_big_quiet_on))
      refine wpQuiet_nil ?_
      intro w3 hb3
      have hW3 := below_next hW hb3

      clear hb3 hW hp hz hcv hb hb1 hb2
      go_wp2
      go_ret2
      exact ⟨by rw [e1.out, e2.out]; rfl, hW3⟩
end Go.Proofs.YtgkndhpolcnjbaaGreatDoor
namespace Go.Proofs.YtgkndhpolcnjbaaGreatDoor
open Go.RowKit Go.Sort
def K.check (c : Nat → Int) (color : Int) : Bool := K.kingOk c color && K.on c (K.kingAt c color) (K.oc color)
theorem aking_eq (c : Nat → Int) (color : Int) (b : Bool) (w : World) (hc : BdOk c) (hT : Tb w) (hv : 0 ≤ c 0) (h0 : 0 ≤ color) (h : K.kingOk c color = b) :
    Calls Tryz.prog 149 #[.agg (posC c), .int .u8 color] w fun e w' => e = .returned (.tuple #[.int .i64 (K.kingAt c color), .bool b]) ∧ Below w.heap.size w w' := by
  rw [← h]; exact aking_any c color w hc hT hv h0
set_option maxRecDepth 100000 in
set_option maxHeartbeats 1000000 in
theorem check_any (c : Nat → Int) (color : Int) (w : World) (hc : BdOk c) (hT : Tb w) (hv : 0 ≤ c 0) (h0 : 0 ≤ color) :
    Calls Tryz.prog 88 #[.agg (posC c), .int .u8 color] w fun e w' => e = .returned (.bool (K.check c color)) ∧ Below w.heap.size w w' := by
  have Hc := Lib.hid hc
  have HT := Lib.hid (tb_below hT ((Below.refl w.heap.size w).alloc (Nat.le_refl _) (.cells (posC c) 31)))
  clear hc hT
  cases hk : K.kingOk c color
  · have e := Lib.hid (show K.check c color = false by unfold K.check; rw [hk]; rfl)
    go_enter Tryz.func88, Tryz.ntmps88
    go_wp2_with (first | ((with_reducible refine wp_load_pos rfl _ rfl c ?_ ?_); · (exact ⟨_, _, _, rfl, heap_alloc_new _ _⟩)) | (go_at_call 149; refine (aking_eq c _ false _ Hc.out HT.out hv h0 hk).mono ?_; rintro e w1 ⟨rfl, hb1⟩))
    go_ret
    exact ⟨ret_bool e.out.symm, ((Below.refl _ _).alloc (Nat.le_refl _) _).trans (hb1.mono (by simp))⟩
  · have e := Lib.hid (show K.check c color = K.on c (K.kingAt c color) (K.oc color) by unfold K.check; rw [hk]; rfl)
    unfold K.oc at e
    go_enter Tryz.func88, Tryz.ntmps88
    go_wp2_with (first | ((with_reducible refine wp_load_pos_g rfl _ rfl c ?_ ?_); · (exact ⟨_, _, _, rfl, (hb1.block _ (by simp)).trans (heap_alloc_new _ _)⟩)) | ((with_reducible refine wp_load_pos rfl _ rfl c ?_ ?_); · (exact ⟨_, _, _, rfl, by first | exact heap_alloc_new _ _ | exact (hb1.block _ (by simp)).trans (heap_alloc_new _ _)⟩)) | (go_at_call 149; refine (aking_eq c _ true _ Hc.out HT.out hv h0 hk).mono ?_; rintro e w1 ⟨rfl, hb1⟩) | (go_at_call 150; refine (on_any c _ _ _ Hc.out (tb_below HT.out hb1)).mono ?_; rintro e w2 ⟨rfl, hb2⟩))
    go_ret
    exact ⟨ret_bool e.out.symm, ((Below.refl _ _).alloc (Nat.le_refl _) _).trans ((below_next hb1 hb2).mono (by simp))⟩
end Go.Proofs.YtgkndhpolcnjbaaGreatDoor
namespace Go.Proofs.YtgkndhpolcnjbaaGreatDoor
open Go.RowKit Go.Sort
def K.from (c : Nat → Int) (s : Int) : BitVec 64 := if K.there s = true then K.hits (P.kind (c (1 + s.toNat))).toNat (P.color (c (1 + s.toNat))) s (S.all c) else 0#64
theorem pos_range {w : World} {b : Nat} {t : TypeId} {fr : Nat × Nat} {c : Nat → Int} (hg : w.heap[b]? = some (.cells (posC c) t fr)) : w.rangeAt b 0 (posL c) := fun j v hv => by
  rw [Nat.zero_add]
  simp only [World.cell?, hg]
  simpa [posC] using hv
theorem wpOp_at {P : Program} {ops : Array Oper} {Q : Exit → Act → World → Prop} {i : Nat} {o : Oper} {a : Act} {w : World} {K : Act → World → Prop} (ho : ops[i]? = some o) (hw : Region.wanted o (yielded ops a.tmps) = true) (h : o.wp P a w K Q) : wpOp P ops Q i K a w := by
  unfold wpOp; rw [ho]; simp only [hw, if_true]; exact .inl h
end Go.Proofs.YtgkndhpolcnjbaaGreatDoor
namespace Go.Proofs.YtgkndhpolcnjbaaGreatDoor
open Go.RowKit Go.Sort
end Go.Proofs.YtgkndhpolcnjbaaGreatDoor
namespace Go.Proofs.YtgkndhpolcnjbaaGreatDoor
open Go.RowKit Go.Sort
/-- A position with one cell another. -/
def upd (c : Nat → Int) (i : Nat) (n : Int) : Nat → Int := fun j => if j = i then n else c j
theorem upd_same (c : Nat → Int) (i : Nat) (n : Int) : upd c i n i = n := by simp [upd]
theorem upd_other (c : Nat → Int) (i j : Nat) (n : Int) (h : j ≠ i) : upd c i n j = c j := by simp [upd, h]
theorem posC_upd (c : Nat → Int) (i : Nat) (n : Int) (hi : i < 88) : (posC c).setIfInBounds i (.int (pk i) n) = posC (upd c i n) := by
  apply Array.ext_getElem?
  intro j
  rw [Array.getElem?_setIfInBounds]
  split
  · rename_i h
    subst h
    rw [if_pos (by rw [posC_size]; exact hi), posC_get _ _ hi]
    simp [upd]
  · rename_i h
    by_cases hj : j < 88
    · rw [posC_get _ _ hj, posC_get _ _ hj]
      unfold upd
      rw [if_neg (fun e => h e.symm)]
    · rw [Array.getElem?_eq_none (by rw [posC_size]; omega), Array.getElem?_eq_none (by rw [posC_size]; omega)]
theorem pk_board {s : Nat} (h : s < 64) : pk (1 + s) = .u8 := by unfold pk; rw [if_pos (by omega)]
/-- A position lies in a box. -/
structure PosAt (w : World) (g : Nat) (c : Nat → Int) : Prop where
  heap : w.heap[g]? = some (.cells (posC c) 31 (0, 0))
/-- Written to one block alone. -/
structure Put (g : Nat) (w w' : World) : Prop where
  os : w'.os = w.os
  tape : w'.tape = w.tape
  output : w'.output = w.output
  size : w'.heap.size = w.heap.size
  block : ∀ k, k ≠ g → w'.heap[k]? = w.heap[k]?
section
variable {w w' w0 : World} {g b B : Nat} {c : Nat → Int}
theorem PosAt.lt (h : PosAt w g c) : g < w.heap.size := (Array.getElem?_eq_some_iff.1 h.heap).1
theorem PosAt.cell (h : PosAt w g c) {i : Nat} (hi : i < 88) : w.cell? ⟨g, i, none⟩ = some (.int (pk i) (c i)) := by
  simp only [World.cell?, h.heap]; exact posC_get c i hi
theorem PosAt.bd (h : PosAt w g c) {s : Nat} (hs : s < 64) : w.cell? ⟨g, 1 + s, none⟩ = some (.int .u8 (c (1 + s))) := by
  rw [h.cell (by omega), pk_board hs]
theorem PosAt.frozen (h : PosAt w g c) (i : Nat) : w.frozen? ⟨g, i, none⟩ = false := by simp [World.frozen?, h.heap]
theorem PosAt.below (h : PosAt w g c) (hb : Below w.heap.size w w') : PosAt w' g c := ⟨(hb.block g h.lt).trans h.heap⟩
theorem PosAt.belowB (h : PosAt w g c) (hb : Below B w w') (hg : g < B) : PosAt w' g c := ⟨(hb.block g hg).trans h.heap⟩
theorem PosAt.alloc (h : PosAt w g c) (o : Obj) : PosAt (w.alloc o) g c := ⟨(Below.heap_alloc _ _ _ h.lt).trans h.heap⟩
theorem PosAt.drew (h : PosAt w g c) : PosAt w.drew g c := ⟨h.heap⟩
theorem PosAt.drewN (h : PosAt w g c) (n : Nat) : PosAt (w.drewN n) g c := ⟨h.heap⟩
theorem PosAt.new (w : World) (c : Nat → Int) : PosAt (w.alloc (.cells (posC c) 31)) w.heap.size c := ⟨heap_alloc_new _ _⟩
theorem Put.below (h : Put g w w') (hb : Below B w0 w) (hg : B ≤ g) : Below B w0 w' :=
  hb.trans ⟨h.os, h.tape, h.output, Nat.le_of_eq h.size.symm, fun k hk => h.block k (by omega)⟩
theorem Put.pos (h : Put g w w') (hp : PosAt w b c) (hne : b ≠ g) : PosAt w' b c := ⟨(h.block b hne).trans hp.heap⟩
theorem Put.refl (g : Nat) (w : World) : Put g w w := ⟨rfl, rfl, rfl, rfl, fun _ _ => rfl⟩
theorem Put.trans {a b d : World} (h : Put g a b) (k : Put g b d) : Put g a d := ⟨k.os.trans h.os, k.tape.trans h.tape, k.output.trans h.output, k.size.trans h.size, fun i hi => (k.block i hi).trans (h.block i hi)⟩
theorem Put.cell (h : Put g w w') {p : Addr} (hp : p.block ≠ g) : w'.cell? p = w.cell? p := by
  unfold World.cell?; rw [h.block _ hp]
theorem run_storeVar_cell (i : Nat) (ty : TypeId) (k : IntKind) (n : Int) (hp : PosAt w g c) (hi : i < 88) (hs : (Tryz.prog.info? ty).map (·.size) = some 1) :
    (storeVar ty ⟨g, i, none⟩ (.int k n)).run Tryz.prog w = .ok () (w.setCell ⟨g, i, none⟩ (.int k n)) := by
  have h1 : (store ⟨g, i, none⟩ (.int k n)).run Tryz.prog w = .ok () (w.setCell ⟨g, i, none⟩ (.int k n)) := by
    rw [run_store _ w _ _ _ rfl, hp.cell hi]
    simp [hp.frozen i]
  cases hq : Tryz.prog.info? ty with
  | none => simp [hq] at hs
  | some j =>
    have hj : j.size = 1 := by simpa [hq] using hs
    simp [storeVar, sizeOf, typeInfo, hq, hj, Value.cells, storeCells, Addr.add, h1]
theorem put_setCell (w : World) (g i : Nat) (v : Value) : Put g w (w.setCell ⟨g, i, none⟩ v) :=
  ⟨rfl, rfl, rfl, by simp [World.setCell], fun k hk => Below.heap_setCell w ⟨g, i, none⟩ v k hk⟩
theorem PosAt.setCell (hp : PosAt w g c) {i : Nat} (hi : i < 88) {k : IntKind} (hk : pk i = k) (n : Int) : PosAt (w.setCell ⟨g, i, none⟩ (.int k n)) g (upd c i n) := by
  subst hk
  refine ⟨?_⟩
  rw [setCell_eq_setRow w g i (posC c) _ (0, 0) _ hp.heap, setRow_heap w g (posC c) _ _ _ hp.heap, posC_upd c i n hi]
theorem put_setRow (w : World) (g : Nat) (cs : Array Value) : Put g w (w.setRow g cs) :=
  ⟨rfl, rfl, rfl, by simp [World.setRow], fun k hk => setRow_other w g k cs hk⟩
theorem posC_one (c : Nat → Int) : (posC c).all (·.oneCell') = true := by
  rw [Array.all_eq_true]
  intro i hi
  have := posC_get c i (by rw [posC_size] at hi; exact hi)
  rw [Array.getElem?_eq_getElem hi] at this
  rw [Option.some.inj this]
  rfl
end
section
variable {ops : Array Oper} {rest : List Oper} {o : Oper} {a : Act} {w : World} {Q : Exit → Act → World → Prop}
/-- A cell of a position is written. -/
theorem wp_store_cell (hgd : o.guard = none) (ty : TypeId) (x y : Operand) (ho : o.op = .store ty x y)
    (h : ∃ (g i : Nat) (c : Nat → Int) (n : Int) (k : IntKind), a.eval x = .pointer (some ⟨g, i, none⟩) ∧ a.eval y = .int k n ∧ PosAt w g c ∧ i < 88 ∧ pk i = k ∧ (Tryz.prog.info? ty).map (·.size) = some 1 ∧
      ∀ W' : World, Put g w W' → PosAt W' g (upd c i n) → wpList Tryz.prog ops Q rest (a.put o.dst undef) W') : wpList Tryz.prog ops Q (o :: rest) a w := by
  obtain ⟨g, i, c, n, k, hx, hy, hp, hi, hk, hs, h⟩ := h
  refine wpList_plain hgd fun _ hK => ?_
  unfold Oper.wp execOp
  simp only [ho, hx, hy, Instr.storeAt, Instr.sureAddr, Sem.run_bind, Sem.run_pure, Result.andThen_ok, run_storeVar_cell i ty k n hp hi hs]
  exact hK _ _ (h _ (put_setCell w g i _) (hp.setCell hi hk n))
/-- A whole position goes into its variable. -/
theorem wp_store_box (hgd : o.guard = none) (x y : Operand) (ho : o.op = .store 31 x y)
    (h : ∃ (g : Nat) (c : Nat → Int), a.eval x = .pointer (some ⟨g, 0, none⟩) ∧ a.eval y = .agg (posC c) ∧ (∃ old, w.heap[g]? = some (.cells old 31 (0, 0)) ∧ old.size = 88) ∧
      ∀ W' : World, Put g w W' → PosAt W' g c → wpList Tryz.prog ops Q rest (a.put o.dst undef) W') : wpList Tryz.prog ops Q (o :: rest) a w := by
  obtain ⟨g, c, hx, hy, ⟨old, hg, hs⟩, h⟩ := h
  exact wpList_store_row hgd _ x y ho g (posC c) hx hy _ old hg (posC_info c) (by rw [hs, posC_size]) (posC_one c) (h _ (put_setRow _ _ _) ⟨setRow_heap _ _ _ _ _ _ hg⟩)
/-- A whole position is loaded. -/
theorem wp_load_box (hgd : o.guard = none) (x : Operand) (ho : o.op = .load 31 x)
    (h : ∃ (g : Nat) (c : Nat → Int), a.eval x = .pointer (some ⟨g, 0, none⟩) ∧ PosAt w g c ∧ wpList Tryz.prog ops Q rest (a.put o.dst (.agg (posC c))) w) : wpList Tryz.prog ops Q (o :: rest) a w := by
  obtain ⟨g, c, hx, hp, h⟩ := h
  exact wp_load_pos hgd x ho c ⟨g, _, _, hx, hp.heap⟩ h
theorem wp_load_box_g (hw : Region.wanted o (yielded ops a.tmps) = true) (x : Operand) (ho : o.op = .load 31 x)
    (h : ∃ (g : Nat) (c : Nat → Int), a.eval x = .pointer (some ⟨g, 0, none⟩) ∧ PosAt w g c ∧ wpList Tryz.prog ops Q rest (a.put o.dst (.agg (posC c))) w) : wpList Tryz.prog ops Q (o :: rest) a w := by
  obtain ⟨g, c, hx, hp, h⟩ := h
  exact wp_load_pos_g hw x ho c ⟨g, _, _, hx, hp.heap⟩ h
end
theorem Tryz.size_u8 : (Tryz.prog.info? 5).map (·.size) = some 1 := by kernel_rfl
end Go.Proofs.YtgkndhpolcnjbaaGreatDoor
namespace Go.Proofs.YtgkndhpolcnjbaaGreatDoor
open Go.ChangeShapes Go.WideShapes Go.ChangeAt Go.RowKit
open Go.WideMaps Go.WideElems
theorem gTab : Tryz.prog.globalNamed "math/bits.deBruijn64tab" = some 0 := by kernel_rfl
theorem tTab : (Tryz.prog.globals[0]?).map (·.type) = some 22 := by kernel_rfl
theorem tabD {H : Type} : (Rows.laid_math_bits_deBruijn64tab : DataW H) = .agg (Lib.deBruijn64tab.map fun (n : Nat) => .lit (.int .u8 (n : Int))) := rfl
theorem cTab : Tryz.prog.cellsOf 5 = 1 := by kernel_rfl
theorem door_met (os : Os) (args : Array Value) : laidMetH Tryz.prog [("math/bits.deBruijn64tab", Rows.laid_math_bits_deBruijn64tab)] ((World.doorLaid Tryz.prog 400 os).forCall (fun _ _ => 0) ⟨#[], args, []⟩).memory :=
  laidMetH_of_parts3 (fuel := 8) (laidMet_of_run' 8 (by kernel_rfl) (by kernel_rfl)) (by kernel_rfl) (by kernel_rfl)
theorem lit_int {H : Type} {a b : Int} (h : (DataW.lit (.int .u8 a) : DataW H) = .lit (.int .u8 b)) : a = b := by
  have h1 : (Lit.int .u8 a) = .int .u8 b := DataW.lit.inj h
  exact (Lit.int.inj h1).2
set_option maxRecDepth 100000 in
theorem tb_of_laid {W : World} (h : laidMetH Tryz.prog [("math/bits.deBruijn64tab", Rows.laid_math_bits_deBruijn64tab)] W) : Tb W := by
  rw [MakeChecks.laidMetH_plain _ _ _ (by kernel_rfl)] at h
  obtain ⟨ps, ⟨g0, t0, cs0, f0, p0, q0, hg0, ht0, hv0, hd0, _, _⟩, _, _⟩ := h
  obtain rfl := Option.some.inj (gTab.symm.trans hg0)
  obtain rfl := Option.some.inj (tTab.symm.trans ht0)
  obtain ⟨xs, m, rfl, hx, hlen, hn, hel⟩ := DataW.trod_array Tryz.underlying22 hd0
  simp only [Prod.mk.injEq] at hx
  rw [tabD] at hx
  have hxs : xs.map (·.1) = Lib.deBruijn64tab.map fun (n : Nat) => (.lit (.int .u8 (n : Int))) := (DataW.agg.inj hx.1).symm
  intro j hj
  have hj64 : j < 64 := hj
  have h1 := hel j hj64
  rw [cTab, Nat.mul_one] at h1
  rw [World.var?_cell hg0 hv0 j]
  have hxj : ∃ x, xs[j]? = some x := ⟨_, List.getElem?_eq_getElem (by omega)⟩
  obtain ⟨x, hx1⟩ := hxj
  rw [hx1] at h1
  obtain ⟨k, e1, e2, _⟩ := DataW.trod_int Tryz.underlying5 h1
  have h2 := congrArg (·[j]?) hxs
  simp only [List.getElem?_map, hx1, Option.map_some] at h2
  rw [List.getElem?_eq_getElem hj] at h2
  simp only [Option.map_some, Option.some.injEq] at h2
  rw [e2] at h2
  have hk : k = ((Lib.deBruijn64tab[j] : Nat) : Int) := lit_int h2
  have h3 : cs0.toList[j]? = some (.int .u8 k) := by
    have := congrArg (·[0]?) e1
    simpa [List.getElem?_take, List.getElem?_drop] using this
  rw [Array.getElem?_toList] at h3
  rw [h3, hk, List.getD_eq_getElem?_getD, List.getElem?_eq_getElem hj]
  rfl
/-- No parameter's type wants a stand-in. -/
theorem plain_params (l : List TypeId) (h : l.all (fun t => !Tryz.prog.wantsStandIn t) = true) (j : Nat) (t : TypeId) (ht : l.toArray[j]? = some t) : Tryz.prog.wantsStandIn t = false := by
  rw [List.getElem?_toArray] at ht
  have := List.all_eq_true.1 h t (List.mem_of_getElem? ht)
  simpa using this
end Go.Proofs.YtgkndhpolcnjbaaGreatDoor
