/- Several texts in one: Law13a. -/

import Derived.Test.YtgkndhpolcnjbaaGreatDoorZq
import Derived.Test.YtgkndhpolcnjbaaGreatDoorZp
namespace Go.Proofs.YtgkndhpolcnjbaaGreatDoor
open Go.RowKit Go.Sort
set_option maxRecDepth 100000 in
set_option maxHeartbeats 1000000 in
theorem d13list_any (c : Nat → Int) (w : World) (hc : PosOk c) : Calls Tryz.prog 52 #[.agg (posC c)] w (Z.End (D.lst c) w) := by
  obtain ⟨t0, _⟩ := pos_u8 hc (i := 78) (by decide) rfl
  obtain ⟨t, ht⟩ : ∃ t : Nat, c 78 = (t : Int) := ⟨(c 78).toNat, by omega⟩
  cases hok : Z.ok c
  · have E := Lib.hid (show D.lst c = [] by unfold D.lst; rw [if_neg (by rw [hok]; simp)])
    have HTh : Hid (∀ w, Calls Tryz.prog 112 #[.agg (posC c)] w fun e w' => e = .returned (.bool false) ∧ Below w.heap.size w w') := Lib.hid (fun w => d13there_eq c false w hok)
    have hp := PosAt.new w c
    have hb0 : Below w.heap.size w (w.alloc (.cells (posC c) 31)) := (Below.refl _ _).alloc (Nat.le_refl _) _
    obtain ⟨W, hW⟩ : ∃ W, w.alloc (.cells (posC c) 31) = W := ⟨_, rfl⟩
    rw [hW] at hp hb0
    have HP := Lib.hid hp
    have HB := Lib.hid hb0
    clear hok ht t0 hc hp hb0
    go_enter Tryz.func52, Tryz.ntmps52
    go_wp2_with (first
      | ((with_reducible refine wp_load_box rfl _ rfl ?_); refine ⟨_, _, rfl, HP.out, ?_⟩)
      | (go_at_call 112; refine (HTh.out _).mono ?_; rintro e w1 ⟨rfl, hb1⟩))
    go_ret
    exact ⟨_, rfl, by rw [E.out]; exact World.ownsRow_nil _ _ _ _, below_next HB.out hb1⟩
  · have ht1 : t ≤ 1 := by
      unfold Z.ok at hok
      simp at hok
      omega
    have := d13list_in c t w hc ht ht1 hok
    rw [show D.lst c = D.list13 c t by unfold D.lst; rw [if_pos hok, ht, Int.toNat_natCast]]
    exact this
namespace Z
end Z
end Go.Proofs.YtgkndhpolcnjbaaGreatDoor
