/- The document's answer of layer 18: On. -/
import Derived.Test.YtnkkhdcjbjiimaaDoorLaw18a
namespace Go.Proofs.YtnkkhdcjbjiimaaDoor
open Go.RowKit Go.Sort

def N.don (c : Nat → Int) (s : Int) : Option (Int × Int × BitVec 64) := (N.at' (N.dall c 0) s).or (N.at' (N.dall c 1) s)
def N.ddone (c : Nat → Int) (s : Int) (k : Nat) : Prop := ∀ j : Nat, j < k → N.at' (N.dall c (j : Int)) s = none
theorem N.don_some {c : Nat → Int} {s : Int} {k : Nat} {x : Int × Int × BitVec 64} (h : N.ddone c s k) (hk : k < 2) (hx : N.at' (N.dall c (k : Int)) s = some x) : N.don c s = some x := by
  unfold N.don
  rcases (show k = 0 ∨ k = 1 by omega) with rfl | rfl
  · have : N.at' (N.dall c 0) s = some x := hx
    rw [this]; rfl
  · have h0 : N.at' (N.dall c 0) s = none := h 0 (by omega)
    have h1 : N.at' (N.dall c 1) s = some x := hx
    rw [h0, h1]; rfl
theorem N.don_none {c : Nat → Int} {s : Int} (h : N.ddone c s 2) : N.don c s = none := by
  unfold N.don
  have h0 : N.at' (N.dall c 0) s = none := h 0 (by omega)
  have h1 : N.at' (N.dall c 1) s = none := h 1 (by omega)
  rw [h0, h1]; rfl

set_option maxRecDepth 100000 in
set_option maxHeartbeats 4000000 in
theorem d18on_any (c : Nat → Int) (s : Int) (w : World) (hc : BdOk c) :
    Calls Tryd.prog 28 #[.agg (posC c), .int .i64 s] w fun e w' => e = .returned (N.onV (N.don c s)) ∧ Below w.heap.size w w' := by
  have Hc := Lib.hid hc
  clear hc
  go_enter Tryd.func28, Tryd.ntmps28
  go_wp2
  have hp := Lib.hid ((PosAt.new w c).alloc (.cells #[.int .i64 0, .int .i64 0, .int .u64 0] 55))
  have hR : RowAt ((w.alloc (.cells (posC c) 31)).alloc (.cells #[.int .i64 0, .int .i64 0, .int .u64 0] 55)) (w.heap.size + 1) 55 #[.int .i64 0, .int .i64 0, .int .u64 0] := by
    have := RowAt.new (w.alloc (.cells (posC c) 31)) #[.int .i64 0, .int .i64 0, .int .u64 0] 55
    simpa using this
  have HR := Lib.hid hR
  have Hb0 := Lib.hid (((Below.refl w.heap.size w).alloc (Nat.le_refl _) (.cells (posC c) 31)).alloc (by simp) (.cells #[.int .i64 0, .int .i64 0, .int .u64 0] 55))
  clear hR
  go_loopw [6] (fun i wr => ∃ k : Nat, k ≤ 2 ∧ i = .int .u8 (k : Int) ∧ N.ddone c s k ∧ PosAt wr w.heap.size c ∧ RowAt wr (w.heap.size + 1) 55 #[.int .i64 0, .int .i64 0, .int .u64 0] ∧ Below w.heap.size w wr) (fun i _ => 2 - (intOf i).toNat)
  case atStart => exact ⟨0, by omega, rfl, fun j hj => by omega, hp.out, HR.out, Hb0.out⟩
  case round =>
    obtain ⟨k, hk, rfl, hdone, hp, hR, hbr⟩ := hrel
    have Hdone := Lib.hid hdone
    clear hdone
    obtain ⟨wo, rfl⟩ : ∃ wo : World, wo = wr := ⟨_, rfl⟩
    by_cases hlt : k < 2
    · obtain ⟨l, hle⟩ : ∃ l, N.dall c (k : Int) = l := ⟨_, rfl⟩
      have hl8 := N.dall_len c (k : Int)
      rw [hle] at hl8
      have Hle := Lib.hid hle
      clear hle
      have hzw := hbr.size
      go_wp2_with (first
        | ((with_reducible refine wp_load_box rfl _ rfl ?_); refine ⟨_, _, rfl, (by assumption), ?_⟩)
        | fail)
      refine (d18all_val c (k : Int) l _ Hc.out Hle.out).mono ?_
      rintro e w1 ⟨v, rfl, hown, hb⟩
      have hb1 := below_next hbr hb
      replace hp := hp.below hb
      replace hR := hR.below hb
      clear hb hbr
      by_cases hl : 0 < l.length
      · obtain ⟨b, cap, rfl, hbb, hbs, hnc, hcm, hcells⟩ := owns_open3 hown hl
        have Hcells := Lib.hid hcells
        clear hcells hown
        unfold maxLen at hcm
        have HP := Lib.hid hp
        have HR1 := Lib.hid hR
        have HB1 := Lib.hid hb1
        have hg1 := hR.lt
        have hz1 := hb1.size
        clear hp hR hb1
        go_wp2
        go_loopw [8] (fun i wy => ∃ n : Nat, n ≤ l.length ∧ i = .int .i64 (n : Int) ∧ N.noneTo l s n ∧ Below w1.heap.size w1 wy) (fun i _ => l.length - (intOf i).toNat)
        case atStart => exact ⟨0, by omega, rfl, fun x hx => by simp at hx, Below.refl _ _⟩
        case round =>
          obtain ⟨n, hn, rfl, hno, hbn⟩ := hrel
          have Hno := Lib.hid hno
          clear hno
          by_cases hltn : n < l.length
          · obtain ⟨x, hx⟩ : ∃ x, l[n]? = some x := ⟨_, List.getElem?_eq_getElem hltn⟩
            have hrng := Lib.hid (pin_range (b := b) (fun j u hu => ((hbn.cell (p := ⟨b, j, none⟩) hbs).trans (Hcells.out j u hu))) n x hx)
            have hcl : wr.cell? ⟨b, n * 3, none⟩ = some (.int .i64 x.1) := (hbn.cell (p := ⟨b, n * 3, none⟩) hbs).trans (Hcells.out (n * 3 + 0) _ (N.cells_at l n x hx 0 _ rfl))
            have Hx := Lib.hid hx
            clear hx
            have hzn := hbn.size
            cases hs : (x.1 == s)
            · go_wp2_with (first
                | ((with_reducible refine wp_load_elem rfl _ _ rfl Tryd.underlying55 rfl ?_); refine ⟨_, _, _, rfl, hrng.out, Tryd.size_Pin, ?_⟩))
              exact ⟨⟨n + 1, by omega, by go_num, N.noneTo_succ Hno.out Hx.out hs, hbn⟩, by simp [intOf]; omega⟩
            · have Hon := Lib.hid (N.don_some Hdone.out hlt (by rw [Hle.out]; exact N.at_some Hno.out Hx.out hs))
              have hR2 := (HR1.out.below hbn)
              go_wp2_with (first
                | ((with_reducible refine wp_load_elem rfl _ _ rfl Tryd.underlying55 rfl ?_); refine ⟨_, _, _, rfl, hrng.out, Tryd.size_Pin, ?_⟩)
                | ((with_reducible refine wp_store_row' rfl _ _ _ rfl ?_); refine ⟨w.heap.size + 1, 55, (N.pinV x).toArray, rfl, rfl, ⟨_, hR2.heap, rfl⟩, Tryd.size_Pin, N.pinV_one x, ?_⟩; intro V hV hRV))
              refine bodyPost_ret (v := N.onV (some x)) (results_cell_tmp Tryd.results28 _ _ (w.heap.size + 1) 55 _ _ _ rfl rfl hRV Tryd.underlying55 rfl Tryd.size_Pin) rfl ⟨by rw [Hon.out], hV.below (HB1.out.trans (hbn.mono hz1)) (by omega)⟩
          · obtain rfl : n = l.length := by omega
            go_wp2
            refine ⟨⟨k + 1, by omega, by go_num, fun j hj => ?_, HP.out.below hbn, HR1.out.below hbn, HB1.out.trans (hbn.mono hz1)⟩, by simp [intOf]; omega⟩
            by_cases e : j = k
            · rw [e, Hle.out]; exact N.at_none Hno.out
            · exact Hdone.out j (by omega)
      · have hz : l = [] := List.eq_nil_of_length_eq_zero (by omega)
        subst hz
        have HP := Lib.hid hp
        have HR1 := Lib.hid hR
        have HB1 := Lib.hid hb1
        clear hp hR hb1
        rcases hown.2 with ⟨rfl, _⟩ | ⟨g, cap, cur, rfl, _⟩
        all_goals
          clear hown
          go_wp2
          go_loopw [8] (fun i wy => i = .int .i64 0 ∧ wy = w1) (fun _ _ => 0)
          case atStart => exact ⟨rfl, rfl⟩
          case round =>
            obtain ⟨rfl, rfl⟩ := hrel
            go_wp2
            refine ⟨⟨k + 1, by omega, by go_num, fun j hj => ?_, HP.out, HR1.out, HB1.out⟩, by simp [intOf]; omega⟩
            by_cases e : j = k
            · rw [e, Hle.out]; rfl
            · exact Hdone.out j (by omega)
    · obtain rfl : k = 2 := by omega
      have Hon := Lib.hid (N.don_none Hdone.out)
      go_wp2_with (first
        | ((with_reducible refine wp_store_row' rfl _ _ _ rfl ?_); refine ⟨w.heap.size + 1, 55, (N.pinV N.no).toArray, rfl, rfl, ⟨_, hR.heap, rfl⟩, Tryd.size_Pin, N.pinV_one _, ?_⟩; intro V hV hRV))
      refine bodyPost_ret (v := N.onV none) (results_cell_tmp Tryd.results28 _ _ (w.heap.size + 1) 55 _ _ _ rfl rfl hRV Tryd.underlying55 rfl Tryd.size_Pin) rfl ⟨by rw [Hon.out], hV.below hbr (by omega)⟩

end Go.Proofs.YtnkkhdcjbjiimaaDoor
