/- The document's answer of layer 18: All. -/
import Derived.Test.YtnkkhdcjbjiimaaDoorRef18
namespace Go.Proofs.YtnkkhdcjbjiimaaDoor
open Go.RowKit Go.Sort

namespace N
def dirAt (t : Nat) : Nat := match t with | 0 => 5 | 1 => 4 | 2 => 3 | 3 => 6 | 5 => 2 | 6 => 7 | 7 => 0 | _ => 1
def stepAt (c : Nat → Int) (color : Int) (k t : Nat) : Option (Int × Int × BitVec 64) := if t = 4 then none else dres c color k (dirAt t)
def allTo (c : Nat → Int) (color : Int) (k t : Nat) : List (Int × Int × BitVec 64) := (List.range t).filterMap (stepAt c color k)
theorem allTo_succ (c : Nat → Int) (color : Int) (k t : Nat) : allTo c color k (t + 1) = allTo c color k t ++ (match stepAt c color k t with | some x => [x] | none => []) := by
  unfold allTo
  rw [List.range_succ, List.filterMap_append]
  congr 1
  cases h : stepAt c color k t <;> simp [h]
theorem allTo_len (c : Nat → Int) (color : Int) (k t : Nat) : (allTo c color k t).length ≤ t := by
  have := List.length_filterMap_le (stepAt c color k) (List.range t)
  simpa [allTo] using this
def dall (c : Nat → Int) (color : Int) : List (Int × Int × BitVec 64) := if color ≤ 1 ∧ 0 ≤ D.find c color 6 then allTo c color (D.find c color 6).toNat 9 else []
end N

theorem N.dirAt_spec (n m : Nat) (hn : n < 3) (hm : m < 3) (h : ¬ (n = 1 ∧ m = 1)) : N.dirAt (3 * n + m) < 8 ∧ dUp (N.dirAt (3 * n + m)) = (n : Int) - 1 ∧ dAs (N.dirAt (3 * n + m)) = (m : Int) - 1 ∧ 3 * n + m ≠ 4 := by
  rcases (show n = 0 ∨ n = 1 ∨ n = 2 by omega) with rfl | rfl | rfl <;> rcases (show m = 0 ∨ m = 1 ∨ m = 2 by omega) with rfl | rfl | rfl <;> first | (exfalso; exact h ⟨rfl, rfl⟩) | exact ⟨by decide, by decide, by decide, by decide⟩

theorem pins_new' (w : World) (a b : Int) (v : BitVec 64) (T : TypeId) (g : Nat) (hg : g = w.heap.size) : ∀ (j : Nat) (u : Value), [Value.int .i64 a, .int .i64 b, .int .u64 (U v)][j]? = some u → (w.alloc (.cells #[.int .i64 a, .int .i64 b, .int .u64 (U v)] T)).cell? ((⟨g, 0, none⟩ : Addr).add j) = some u := by
  subst hg; exact pins_new w a b v T

theorem d18along_val (c : Nat → Int) (color : Int) (k d : Nat) (u a m b : Int) (v : BitVec 64) (ok : Bool) (w : World) (hc : BdOk c) (hk : k < 64) (hd : d < 8) (hu : dUp d = u) (ha : dAs d = a) (h : N.docR c color k d = (m, b, v, ok)) :
    Calls Tryd.prog 46 #[.agg (posC c), .int .u8 color, .int .i64 (k : Int), .int .i64 u, .int .i64 a] w fun e w' => e = .returned (.tuple #[.agg #[.int .i64 m, .int .i64 b, .int .u64 (U v)], .bool ok]) ∧ Below w.heap.size w w' := by
  have := d18along_any c color k d w hc hk hd
  rw [h, hu, ha] at this
  exact this
theorem Tryd.info_Pin : (Tryd.prog.info? 55).map (fun i => (i.zero, i.size, i.bytes)) = some (some (.agg #[.int .i64 0, .int .i64 0, .int .u64 0]), 3, 24) := by kernel_rfl

set_option maxRecDepth 100000 in
set_option maxHeartbeats 16000000 in
theorem d18all_any (c : Nat → Int) (color : Int) (w : World) (hc : BdOk c) :
    Calls Tryd.prog 25 #[.agg (posC c), .int .u8 color] w (N.End 55 (N.dall c color) w) := by
  have Hc := Lib.hid hc
  have hfb := D.find_bd c color 6
  clear hc
  have hb0 : Below w.heap.size w (w.alloc (.cells (posC c) 31)) := (Below.refl _ _).alloc (Nat.le_refl _) _
  have hp := PosAt.new w c
  by_cases h1 : color ≤ 1
  · rcases hfb with hf | ⟨k, hk, hf⟩
    · have Hn := Lib.hid (show N.dall c color = [] by unfold N.dall; rw [hf, if_neg (by simp)])
      have Hf := Lib.hid hf
      clear hf
      go_enter Tryd.func25, Tryd.ntmps25
      go_wp2_with (first
        | ((with_reducible refine wp_load_box rfl _ rfl ?_); refine ⟨_, _, rfl, (by assumption), ?_⟩)
        | (go_at_call 45; refine (d8find_any c _ _ _ Hc.out).mono ?_; rw [Hf.out]; rintro e u ⟨rfl, hb⟩; replace hp := hp.below hb; replace hb0 := below_next hb0 hb; clear hb))
      go_loopw [5, 7] (fun v i wr => v = .slice none 0 0 ∧ i = .int .i64 (-1) ∧ wr = u) (fun _ _ _ => 0)
      case atStart => exact ⟨rfl, rfl, rfl⟩
      case round =>
        obtain ⟨rfl, rfl, rfl⟩ := hrel
        go_wp2
        go_ret
        rw [Hn.out]
        exact ⟨_, rfl, World.ownsRow_nil _ _ _ _, hb0⟩
    · have Hn := Lib.hid (show N.dall c color = N.allTo c color k 9 by unfold N.dall; rw [hf, if_pos ⟨h1, by omega⟩]; rfl)
      have Hf := Lib.hid hf
      clear hf
      go_enter Tryd.func25, Tryd.ntmps25
      go_wp2_with (first
        | ((with_reducible refine wp_load_box rfl _ rfl ?_); refine ⟨_, _, rfl, (by assumption), ?_⟩)
        | (go_at_call 45; refine (d8find_any c _ _ _ Hc.out).mono ?_; rw [Hf.out]; rintro e u ⟨rfl, hb⟩; replace hp := hp.below hb; replace hb0 := below_next hb0 hb; clear hb))
      have HP := Lib.hid hp
      have HB := Lib.hid hb0
      clear hp hb0
      obtain ⟨i0, hi, hz0, hz1, hz2⟩ := info_parts Tryd.info_Pin
      go_loopw [5, 7] (fun v i wr => ∃ n : Nat, n ≤ 3 ∧ i = .int .i64 ((n : Int) - 1) ∧ wr.ownsRow (w.heap.size + 1) 55 3 v (N.allTo c color k (3 * n)).length (N.cells (N.allTo c color k (3 * n))) ∧ PosAt wr w.heap.size c ∧ Below w.heap.size w wr) (fun _ i _ => (2 - intOf i).toNat)
      case atStart => exact ⟨0, by omega, rfl, World.ownsRow_nil _ _ _ _, HP.out, HB.out⟩
      case round =>
        obtain ⟨n, hn, rfl, hown, hp, hbr⟩ := hrel
        obtain ⟨wo, rfl⟩ : ∃ wo : World, wo = wr := ⟨_, rfl⟩
        by_cases hlt : n < 3
        · have HO := Lib.hid hown
          have HP1 := Lib.hid hp
          have HB1 := Lib.hid hbr
          clear hown hp hbr
          go_wp2
          go_loopw [5, 8] (fun v j wy => ∃ m : Nat, m ≤ 3 ∧ j = .int .i64 ((m : Int) - 1) ∧ wy.ownsRow (w.heap.size + 1) 55 3 v (N.allTo c color k (3 * n + m)).length (N.cells (N.allTo c color k (3 * n + m))) ∧ PosAt wy w.heap.size c ∧ Below w.heap.size w wy) (fun _ j _ => (2 - intOf j).toNat)
          case atStart => exact ⟨0, by omega, rfl, HO.out, HP1.out, HB1.out⟩
          case round =>
            obtain ⟨m, hm, rfl, hown, hp, hbr⟩ := hrel
            by_cases hlm : m < 3
            · have hst := N.allTo_succ c color k (3 * n + m)
              have hlen := N.allTo_len c color k (3 * n + m)
              cases e0 : ((n : Int) - 1 == 0) <;> cases e1 : ((m : Int) - 1 == 0)
              case true.true =>
                have hs4 : N.stepAt c color k (3 * n + m) = none := by unfold N.stepAt; rw [if_pos (by simp at e0 e1; omega)]
                rw [hs4, List.append_nil] at hst
                have Hst := Lib.hid hst
                clear hst hs4
                go_wp2
                exact ⟨⟨m + 1, by omega, by go_num, by rw [← Nat.add_assoc, Hst.out]; exact hown, hp, hbr⟩, by simp [intOf]; omega⟩
              all_goals
                obtain ⟨g1, g2, g3, g4⟩ := N.dirAt_spec n m hlt hlm (fun h => by simp at e0 e1; omega)
                obtain ⟨mm, bb, vv, ok, hr⟩ : ∃ mm bb vv ok, N.docR c color k (N.dirAt (3 * n + m)) = (mm, bb, vv, ok) := ⟨_, _, _, _, rfl⟩
                have hs4 : N.stepAt c color k (3 * n + m) = if ok = true then some (mm, bb, vv) else none := by
                  unfold N.stepAt; rw [if_neg g4]; unfold N.dres; rw [hr]
                have Hr := Lib.hid hr
                have G := Lib.hid (And.intro g1 (And.intro g2 g3))
                clear hr g2 g3 g4
                cases ok
                · rw [hs4, if_neg (by simp), List.append_nil] at hst
                  have Hst := Lib.hid hst
                  clear hst hs4
                  go_wp2_with (first
                  | ((with_reducible refine wp_load_box rfl _ rfl ?_); refine ⟨_, _, rfl, (by assumption), ?_⟩)
                  | (go_at_call 46; refine (d18along_val c color k (N.dirAt (3 * n + m)) _ _ mm bb vv false _ Hc.out hk g1 G.out.2.1 G.out.2.2 Hr.out).mono ?_; rintro e u ⟨rfl, hb⟩; replace hp := hp.below hb; replace hown := owns_below hown hb; replace hbr := below_next hbr hb; clear hb))
                  exact ⟨⟨m + 1, by omega, by go_num, by rw [← Nat.add_assoc, Hst.out]; exact hown.alloc _, hp.alloc _, hbr.alloc hbr.size _⟩, by simp [intOf]; omega⟩
                · rw [hs4, if_pos rfl] at hst
                  have Hst := Lib.hid hst
                  clear hst hs4
                  go_wp2_with (first
                  | ((with_reducible refine wp_load_box rfl _ rfl ?_); refine ⟨_, _, rfl, (by assumption), ?_⟩)
                  | (go_at_call 46; refine (d18along_val c color k (N.dirAt (3 * n + m)) _ _ mm bb vv true _ Hc.out hk g1 G.out.2.1 G.out.2.2 Hr.out).mono ?_; rintro e u ⟨rfl, hb⟩; replace hp := hp.below hb; replace hown := owns_below hown hb; replace hbr := below_next hbr hb; clear hb)
                  | (at_builtin; refine wpList_append_own _ rfl _ _ 51 rfl (w.heap.size + 1) 55 i0 (.agg #[.int .i64 0, .int .i64 0, .int .u64 0]) 3 24 Tryd.underlying51 hi hz0 hz1 hz2 rfl (by decide) _ _ _ rfl ((hown.alloc _).alloc _) ⟨_, 0, none⟩ 1 1 [.int .i64 mm, .int .i64 bb, .int .u64 (U vv)] rfl rfl (pins_new' _ _ _ _ _ _ (by simp)) (by intro q hq; simp at hq; rcases hq with rfl | rfl | rfl <;> rfl) (by unfold maxLen; omega) (by omega) (by have := hp.lt; simp; omega) ?_; intro v' w1 hown' hgrow _))
                  refine ⟨⟨m + 1, by omega, by go_num, ?_, ?_, ?_⟩, by simp [intOf]; omega⟩
                  · rw [← Nat.add_assoc, Hst.out, N.cells_snoc, List.length_append]; exact hown'
                  · exact ((hp.alloc _).alloc _).grown hgrow (fun q hq => by have := (hown.lt q hq).1; omega)
                  · exact ((hbr.alloc hbr.size _).alloc (by have := hbr.size; simp; omega) _).grown hgrow (by have := hbr.size; simp; omega) (fun q hq => by have := (hown.lt q hq).1; omega)
            · obtain rfl : m = 3 := by omega
              go_wp2
              exact ⟨⟨n + 1, by omega, by go_num, hown, hp, hbr⟩, by simp [intOf]; omega⟩
        · obtain rfl : n = 3 := by omega
          go_wp2
          go_ret
          rw [Hn.out]
          exact ⟨_, rfl, hown, hbr⟩
  · have Hn := Lib.hid (show N.dall c color = [] by unfold N.dall; rw [if_neg (fun h => h1 h.1)])
    go_enter Tryd.func25, Tryd.ntmps25
    go_wp2
    go_ret
    rw [Hn.out]
    exact ⟨_, rfl, World.ownsRow_nil _ _ _ _, hb0⟩

end Go.Proofs.YtnkkhdcjbjiimaaDoor
