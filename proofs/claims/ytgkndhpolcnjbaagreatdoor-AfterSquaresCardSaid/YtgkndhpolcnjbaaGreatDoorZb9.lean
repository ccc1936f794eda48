/- Several texts in one: AfLw. -/

import Derived.Test.YtgkndhpolcnjbaaGreatDoorZb
import Derived.Test.YtgkndhpolcnjbaaGreatDoorZh
namespace Go.Proofs.YtgkndhpolcnjbaaGreatDoor
open Go.RowKit Go.Sort
/-- A position whose pieces are such that there are. -/
def law16 (c : Nat → Int) : Bool := lawB c && (decide (c 78 < 2) && (decide (c 0 < 9) && (decide (-1 ≤ c 83) && decide (c 83 < 64))))
set_option maxRecDepth 100000 in
set_option maxHeartbeats 1000000 in
theorem lawful16_any (c : Nat → Int) (w : World) (hc0 : PosOk c) :
    Calls Tryz.prog 18 #[.agg (posC c)] w fun e w' => e = .returned (.bool (law16 c)) ∧ Below w.heap.size w w' := by
  have Hc := Lib.hid (pos_bd hc0)
  have HLW : Hid (law16 c = (lawB c && (decide (c 78 < 2) && (decide (c 0 < 9) && (decide (-1 ≤ c 83) && decide (c 83 < 64)))))) := Lib.hid rfl
  clear hc0
  go_enter Tryz.func18, Tryz.ntmps18
  go_wp2
  have HW := Lib.hid (heap_alloc_new w (.cells (posC c) 31))
  have Hb0 := Lib.hid ((Below.refl w.heap.size w).alloc (Nat.le_refl _) (.cells (posC c) 31))
  go_loopw [3] (fun i wr => ∃ k : Nat, k ≤ 64 ∧ i = .int .i64 (k : Int) ∧ lawB c = lawTo c k (64 - k) ∧ wr.heap[w.heap.size]? = some (.cells (posC c) 31 (0, 0)) ∧ Below w.heap.size w wr) (fun i _ => 64 - (intOf i).toNat)
  case atStart => exact ⟨0, Nat.zero_le _, rfl, rfl, HW.out, Hb0.out⟩
  case round =>
    obtain ⟨k, hk, rfl, he, hp, hbr⟩ := hrel
    have He := Lib.hid he
    clear he
    by_cases hlt : k < 64
    · obtain ⟨x0, x1⟩ := Hc.out k hlt
      have hcl := bd_cell hp k hlt
      have hs := okL_spec _ x0 x1
      have hst : lawTo c k (64 - k) = (okL (c (1 + k)) && lawTo c (k + 1) (64 - (k + 1))) := by rw [show 64 - k = (64 - (k + 1)) + 1 by omega, lawTo]
      have hm : (c (1 + k)).tmod 8 = c (1 + k) % 8 := Int.tmod_eq_emod_of_nonneg x0
      have He2 := Lib.hid (He.out.trans hst)
      clear He hst
      have HS := Lib.hid hs
      clear hs
      generalize c (1 + k) = x at *
      by_cases hz : x = 0
      · have ho := Lib.hid (show okL x = true by rw [hz]; rfl)
        subst hz
        go_wp2
        exact ⟨⟨k + 1, by omega, by go_num, by rw [He2.out, ho.out]; rfl, hp, hbr⟩, by simp [intOf]; omega⟩
      · have hb : (x != 0) = true := by simpa using hz
        have hd : decide (x ≠ 0) = true := by simpa using hz
        rw [hd] at HS
        clear hz hd
        by_cases h15 : 15 < x
        · have ho := Lib.hid (show okL x = false by rw [HS.out, decide_eq_true h15]; rfl)
          go_wp2
          go_ret
          exact ⟨ret_bool (by rw [HLW.out, He2.out, ho.out]; rfl), hbr⟩
        · by_cases h8 : x % 8 < 1
          · have ho := Lib.hid (show okL x = false by rw [HS.out, decide_eq_true h8]; simp)
            go_wp2
            go_ret
            exact ⟨ret_bool (by rw [HLW.out, He2.out, ho.out]; rfl), hbr⟩
          · by_cases h6 : 6 < x % 8
            · have ho := Lib.hid (show okL x = false by rw [HS.out, decide_eq_true h6]; simp)
              go_wp2
              go_ret
              exact ⟨ret_bool (by rw [HLW.out, He2.out, ho.out]; rfl), hbr⟩
            · have ho := Lib.hid (show okL x = true by rw [HS.out, decide_eq_false h15, decide_eq_false h8, decide_eq_false h6]; rfl)
              go_wp2
              exact ⟨⟨k + 1, by omega, by go_num, by rw [He2.out, ho.out]; rfl, hp, hbr⟩, by simp [intOf]; omega⟩
    · obtain rfl : k = 64 := by omega
      have hlw : lawB c = true := by rw [He.out]; rfl
      have hq : PosAt wr w.heap.size c := ⟨hp⟩
      have h0 := hq.cell (i := 0) (by decide)
      rw [show pk 0 = .u8 from rfl] at h0
      have h78 := hq.cell (i := 78) (by decide)
      rw [show pk 78 = .u8 from rfl] at h78
      have h83 := hq.cell (i := 83) (by decide)
      rw [show pk 83 = .i8 from rfl] at h83
      have hl := HLW.out
      rw [hlw, Bool.true_and] at hl
      clear hlw He hp hq hk hlt
      generalize c 0 = x0 at *
      generalize c 78 = x1 at *
      generalize c 83 = x2 at *
      by_cases h1 : x1 < 2
      · have d1 := decide_eq_true h1
        rw [d1, Bool.true_and] at hl
        clear h1
        by_cases h2 : x0 < 9
        · have d2 := decide_eq_true h2
          rw [d2, Bool.true_and] at hl
          clear h2
          by_cases h3 : -1 ≤ x2
          · have d3 := decide_eq_true h3
            rw [d3, Bool.true_and] at hl
            clear h3
            have HE := Lib.hid hl
            clear hl
            go_wp2
            go_ret
            exact ⟨ret_bool HE.out.symm, hbr⟩
          · have d3 := decide_eq_false h3
            rw [d3, Bool.false_and] at hl
            clear h3
            have HE := Lib.hid hl
            clear hl
            go_wp2
            go_ret
            exact ⟨ret_bool HE.out.symm, hbr⟩
        · have d2 := decide_eq_false h2
          rw [d2, Bool.false_and] at hl
          clear h2
          have HE := Lib.hid hl
          clear hl
          go_wp2
          go_ret
          exact ⟨ret_bool HE.out.symm, hbr⟩
      · have d1 := decide_eq_false h1
        rw [d1, Bool.false_and] at hl
        clear h1
        have HE := Lib.hid hl
        clear hl
        go_wp2
        go_ret
        exact ⟨ret_bool HE.out.symm, hbr⟩
theorem lawful16_eq (c : Nat → Int) (b : Bool) (w : World) (hc : PosOk c) (h : law16 c = b) :
    Calls Tryz.prog 18 #[.agg (posC c)] w fun e w' => e = .returned (.bool b) ∧ Below w.heap.size w w' := by
  rw [← h]; exact lawful16_any c w hc
end Go.Proofs.YtgkndhpolcnjbaaGreatDoor
