/- The program's package pins: Blocks. -/
import Derived.Test.YtnkkhdcjbjiimaaDoorPinsLine
import Derived.Test.YtnkkhdcjbjiimaaDoorBetween
namespace Go.Proofs.YtnkkhdcjbjiimaaDoor
open Go.RowKit Go.Sort

namespace N
def slider (k : Int) : Bool := k == 4 || (k == 3 || k == 5)
def blocks (c : Nat → Int) (color : Int) : BitVec 64 :=
  if color ≤ 1 ∧ 0 ≤ S.find c color 6 then
    (let b := K.by c (S.find c color 6) (K.oc color)
     if B.count b = 0 then ones else if B.count b = 1 then
       (if slider (P.kind (c (1 + (B.first b).toNat))) = true then bOr b (R.between (S.find c color 6) (B.first b)) else b) else 0#64)
  else 0#64
end N

set_option maxRecDepth 100000 in
set_option maxHeartbeats 4000000 in
theorem pblocks_any (c : Nat → Int) (color : Int) (w : World) (hc : BdOk c) (hT : Tb w) :
    Calls Tryd.prog 32 #[.agg (posC c), .int .u8 color] w fun e w' => e = .returned (.int .u64 (U (N.blocks c color))) ∧ Below w.heap.size w w' := by
  have Hc := Lib.hid hc
  have HT := Lib.hid (fun W (hb : Below w.heap.size w W) => tb_below hT hb)
  have hfb := D.find_bd c color 6
  rw [← find_eq c color hc] at hfb
  clear hT hc
  have hb0 : Below w.heap.size w (w.alloc (.cells (posC c) 31)) := (Below.refl _ _).alloc (Nat.le_refl _) _
  have hp := PosAt.new w c
  by_cases h1 : color ≤ 1
  · rcases hfb with hf | ⟨k, hk, hf⟩
    · have e := Lib.hid (show N.blocks c color = 0#64 by unfold N.blocks; rw [hf, if_neg (by simp)])
      have Hf := Lib.hid hf
      clear hf
      go_enter Tryd.func32, Tryd.ntmps32
      go_wp2_with (first
        | ((with_reducible refine wp_load_box rfl _ rfl ?_); refine ⟨_, _, rfl, (by assumption), ?_⟩)
        | (go_at_call 38; refine (find_any c _ _ _ Hc.out (HT.out _ hb0)).mono ?_; rw [Hf.out]; rintro e u ⟨rfl, hb⟩; replace hp := hp.below hb; replace hb0 := below_next hb0 hb; clear hb))
      go_ret
      exact ⟨ret_int (by rw [e.out]; rfl), hb0⟩
    · obtain ⟨b, hbv⟩ : ∃ b, K.by c (k : Int) (K.oc color) = b := ⟨_, rfl⟩
      have hbl : N.blocks c color = if B.count b = 0 then N.ones else if B.count b = 1 then (if N.slider (P.kind (c (1 + (B.first b).toNat))) = true then bOr b (R.between k (B.first b)) else b) else 0#64 := by
        unfold N.blocks; rw [hf, if_pos ⟨h1, by omega⟩, hbv]
      have Hf := Lib.hid hf
      have bv := Lib.hid (fun W (hT : Tb W) => by_val c k (K.oc color) b W Hc.out hT hbv)
      unfold K.oc at bv
      clear hf hbv
      cases c0 : ((B.count b : Int) == 0)
      · cases c1 : ((B.count b : Int) == 1)
        · have e := Lib.hid (show N.blocks c color = 0#64 by rw [hbl, if_neg (by simp at c0; omega), if_neg (by simp at c1; omega)])
          clear hbl
          go_enter Tryd.func32, Tryd.ntmps32
          go_wp2_with (first
            | ((with_reducible refine wp_load_box rfl _ rfl ?_); refine ⟨_, _, rfl, (by assumption), ?_⟩)
            | (go_at_call 38; refine (find_any c _ _ _ Hc.out (HT.out _ hb0)).mono ?_; rw [Hf.out]; rintro e u ⟨rfl, hb⟩; replace hp := hp.below hb; replace hb0 := below_next hb0 hb; clear hb)
            | (go_at_call 36; refine (bv.out _ (HT.out _ hb0)).mono ?_; rintro e u ⟨rfl, hb⟩; replace hp := hp.below hb; replace hb0 := below_next hb0 hb; clear hb)
            | (go_at_call 53; refine (count_any _ _).mono ?_; rintro e w' ⟨rfl, rfl⟩))
          go_ret
          exact ⟨ret_int (by rw [e.out]; rfl), hb0⟩
        · obtain ⟨s, hs, rfl⟩ := (count_one b).1 (by simp at c1; omega)
          have hfo := first_one s hs
          rw [if_neg (by simp at c0; omega), if_pos (by simp at c1; omega), hfo, Int.toNat_natCast] at hbl
          obtain ⟨x0, x1⟩ := Hc.out s hs
          have Hfo := Lib.hid hfo
          clear hfo
          have hsl : N.slider (P.kind (c (1 + s))) = (P.kind (c (1 + s)) == 4 || (P.kind (c (1 + s)) == 3 || P.kind (c (1 + s)) == 5)) := rfl
          cases s4 : (P.kind (c (1 + s)) == 4) <;> cases s3 : (P.kind (c (1 + s)) == 3) <;> cases s5 : (P.kind (c (1 + s)) == 5)
          all_goals
            rw [s4, s3, s5] at hsl
            rw [hsl] at hbl
            have e := Lib.hid hbl
            clear hbl hsl
            go_enter Tryd.func32, Tryd.ntmps32
            go_wp2_with (first
              | ((with_reducible refine wp_load_box rfl _ rfl ?_); refine ⟨_, _, rfl, (by assumption), ?_⟩)
              | (go_at_call 38; refine (find_any c _ _ _ Hc.out (HT.out _ hb0)).mono ?_; rw [Hf.out]; rintro e u ⟨rfl, hb⟩; replace hp := hp.below hb; replace hb0 := below_next hb0 hb; clear hb)
              | (go_at_call 36; refine (bv.out _ (HT.out _ hb0)).mono ?_; rintro e u ⟨rfl, hb⟩; replace hp := hp.below hb; replace hb0 := below_next hb0 hb; clear hb; have hcl := hp.bd hs)
              | (go_at_call 53; refine (count_any _ _).mono ?_; rintro e w' ⟨rfl, rfl⟩)
              | (go_at_call 54; refine (first_any _ _ (HT.out _ hb0)).mono ?_; rw [Hfo.out]; rintro e w' ⟨rfl, rfl⟩)
              | (go_at_call 55; refine (kind_any _ _ x0 x1).mono ?_; rintro e w' ⟨rfl, rfl⟩)
              | (go_at_call 56; refine (between_any _ _ _).mono ?_; rintro e u ⟨rfl, hb⟩; replace hb0 := below_next hb0 hb; clear hb))
            go_ret
            exact ⟨ret_int (by rw [e.out]; rfl), hb0⟩
      · have e := Lib.hid (show N.blocks c color = N.ones by rw [hbl, if_pos (by simp at c0; omega)])
        clear hbl
        go_enter Tryd.func32, Tryd.ntmps32
        go_wp2_with (first
          | ((with_reducible refine wp_load_box rfl _ rfl ?_); refine ⟨_, _, rfl, (by assumption), ?_⟩)
          | (go_at_call 38; refine (find_any c _ _ _ Hc.out (HT.out _ hb0)).mono ?_; rw [Hf.out]; rintro e u ⟨rfl, hb⟩; replace hp := hp.below hb; replace hb0 := below_next hb0 hb; clear hb)
          | (go_at_call 36; refine (bv.out _ (HT.out _ hb0)).mono ?_; rintro e u ⟨rfl, hb⟩; replace hp := hp.below hb; replace hb0 := below_next hb0 hb; clear hb)
          | (go_at_call 53; refine (count_any _ _).mono ?_; rintro e w' ⟨rfl, rfl⟩))
        go_ret
        exact ⟨ret_int (by rw [e.out]; rfl), hb0⟩
  · have e := Lib.hid (show N.blocks c color = 0#64 by unfold N.blocks; rw [if_neg (fun h => h1 h.1)])
    go_enter Tryd.func32, Tryd.ntmps32
    go_wp2
    go_ret
    exact ⟨ret_int (by rw [e.out]; rfl), hb0⟩

end Go.Proofs.YtnkkhdcjbjiimaaDoor
