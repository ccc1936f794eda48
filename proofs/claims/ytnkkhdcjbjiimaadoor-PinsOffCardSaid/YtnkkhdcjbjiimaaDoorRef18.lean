/- The document's answer of layer 18: along. -/
import Derived.Test.YtnkkhdcjbjiimaaDoorPinsOn
import Derived.Test.YtnkkhdcjbjiimaaDoorDocB
namespace Go.Proofs.YtnkkhdcjbjiimaaDoor
open Go.RowKit Go.Sort

theorem Tryd.size_Pin : (Tryd.prog.info? 55).map (·.size) = some 3 := by kernel_rfl
theorem Tryd.size_int : (Tryd.prog.info? 3).map (·.size) = some 1 := by kernel_rfl
theorem Tryd.size_u64 : (Tryd.prog.info? 23).map (·.size) = some 1 := by kernel_rfl

namespace N
/-- A result of along, as the document hands it on. -/
def alV (x : Int × Int × BitVec 64 × Bool) : Value := .tuple #[.agg (pinV (x.1, x.2.1, x.2.2.1)).toArray, .bool x.2.2.2]
theorem rlTo_in (k d n : Nat) (r f : Int) (h : 0 ≤ r ∧ r < 8 ∧ 0 ≤ f ∧ f < 8) : rlTo k d (n + 1) r f = (8 * r + f).toNat :: rlTo k d n (r + dUp d) (f + dAs d) := by rw [rlTo, if_pos h]
theorem rlTo_out (k d n : Nat) (r f : Int) (h : ¬ (0 ≤ r ∧ r < 8 ∧ 0 ≤ f ∧ f < 8)) : rlTo k d n r f = [] := by
  cases n with
  | zero => rfl
  | succ n => rw [rlTo, if_neg h]
def inB (r f : Int) : Bool := decide (0 ≤ r) && (decide (r < 8) && (decide (0 ≤ f) && decide (f < 8)))
/-- n steps are enough to come off the board. -/
def fuel (d : Nat) : Nat → Int → Int → Bool
  | 0, r, f => !inB r f
  | n + 1, r, f => !inB r f || fuel d n (r + dUp d) (f + dAs d)
theorem fuel_tab : ∀ (k : Fin 64) (d : Fin 8), fuel d.val 8 (((k.val : Nat) : Int) / 8 + dUp d.val) (((k.val : Nat) : Int) % 8 + dAs d.val) = true := by decide +kernel
theorem d_straight (d : Nat) (hd : d < 8) : ((dUp d == 0) || (dAs d == 0)) = (d % 2 == 0) := by
  rcases (show d = 0 ∨ d = 1 ∨ d = 2 ∨ d = 3 ∨ d = 4 ∨ d = 5 ∨ d = 6 ∨ d = 7 by omega) with rfl | rfl | rfl | rfl | rfl | rfl | rfl | rfl <;> rfl
theorem d_bd (d : Nat) : -1 ≤ dUp d ∧ dUp d ≤ 1 ∧ -1 ≤ dAs d ∧ dAs d ≤ 1 := by
  unfold dUp dAs
  split <;> split <;> omega
end N

set_option maxRecDepth 100000 in
set_option maxHeartbeats 16000000 in
theorem d18along_any (c : Nat → Int) (color : Int) (k d : Nat) (w : World) (hc : BdOk c) (hk : k < 64) (hd : d < 8) :
    Calls Tryd.prog 46 #[.agg (posC c), .int .u8 color, .int .i64 (k : Int), .int .i64 (dUp d), .int .i64 (dAs d)] w fun e w' => e = .returned (N.alV (N.docR c color k d)) ∧ Below w.heap.size w w' := by
  have Hc := Lib.hid hc
  have q1 := tdiv8 k
  have q2 := tmod8 k
  have hst := N.d_straight d hd
  have h9 := Lib.hid (N.fuel_tab ⟨k, hk⟩ ⟨d, hd⟩)
  obtain ⟨b1, b2, b3, b4⟩ := N.d_bd d
  have hdr : N.docR c color k d = N.alongL c color d (rlTo k d 8 ((k : Int) / 8 + dUp d) ((k : Int) % 8 + dAs d)) (-1) 0#64 := rfl
  have Hdr := Lib.hid hdr
  have HU := Lib.hid (rfl : dUp d = dUp d)
  clear hc hdr
  have hfu : ∀ n (r f : Int), N.fuel d (n + 1) r f = (!N.inB r f || N.fuel d n (r + dUp d) (f + dAs d)) := fun _ _ _ => rfl
  have hrl : ∀ n (r f : Int), (0 ≤ r ∧ r < 8 ∧ 0 ≤ f ∧ f < 8) → rlTo k d (n + 1) r f = (8 * r + f).toNat :: rlTo k d n (r + dUp d) (f + dAs d) := fun n r f h => N.rlTo_in k d n r f h
  clear HU
  generalize dUp d = u at *
  generalize dAs d = a at *
  have Hfu := Lib.hid hfu
  have Hrl := Lib.hid hrl
  clear hfu hrl
  go_enter Tryd.func46, Tryd.ntmps46
  go_wp2
  have hP := Lib.hid (((PosAt.new w c).alloc (.cells #[.int .i64 0, .int .i64 0, .int .u64 0] 55)).alloc (.cells #[.int .i64 (-1), .int .i64 0, .int .u64 0] 55))
  have hR0 : RowAt ((w.alloc (.cells (posC c) 31)).alloc (.cells #[.int .i64 0, .int .i64 0, .int .u64 0] 55)) (w.heap.size + 1) 55 #[.int .i64 0, .int .i64 0, .int .u64 0] := by
    have := RowAt.new (w.alloc (.cells (posC c) 31)) #[.int .i64 0, .int .i64 0, .int .u64 0] 55
    simpa using this
  have HR := Lib.hid (hR0.alloc (.cells #[.int .i64 (-1), .int .i64 0, .int .u64 0] 55))
  have hX0 : RowAt (((w.alloc (.cells (posC c) 31)).alloc (.cells #[.int .i64 0, .int .i64 0, .int .u64 0] 55)).alloc (.cells #[.int .i64 (-1), .int .i64 0, .int .u64 0] 55)) (w.heap.size + 1 + 1) 55 #[.int .i64 (-1), .int .i64 0, .int .u64 0] := by
    have := RowAt.new ((w.alloc (.cells (posC c) 31)).alloc (.cells #[.int .i64 0, .int .i64 0, .int .u64 0] 55)) #[.int .i64 (-1), .int .i64 0, .int .u64 0] 55
    simpa using this
  have HX := Lib.hid hX0
  have HB := Lib.hid ((((Below.refl w.heap.size w).alloc (Nat.le_refl _) (.cells (posC c) 31)).alloc (by simp) (.cells #[.int .i64 0, .int .i64 0, .int .u64 0] 55)).alloc (by simp; omega) (.cells #[.int .i64 (-1), .int .i64 0, .int .u64 0] 55))
  clear hR0 hX0
  go_loopg [13, 14] 8 (fun n r f wr => ∃ (rv fv man : Int) (line : BitVec 64), r = .int .i64 rv ∧ f = .int .i64 fv ∧ -1 ≤ rv ∧ rv ≤ 8 ∧ -1 ≤ fv ∧ fv ≤ 8 ∧ N.fuel d n rv fv = true ∧ N.docR c color k d = N.alongL c color d (rlTo k d n rv fv) man line ∧ (man = -1 ∨ (0 ≤ man ∧ man < 64)) ∧ RowAt wr (w.heap.size + 1 + 1) 55 #[.int .i64 man, .int .i64 0, .int .u64 (U line)] ∧ RowAt wr (w.heap.size + 1) 55 #[.int .i64 0, .int .i64 0, .int .u64 0] ∧ PosAt wr w.heap.size c ∧ Below w.heap.size w wr)
  case atStart => exact ⟨_, _, -1, 0#64, rfl, rfl, by omega, by omega, by omega, by omega, h9.out, Hdr.out, .inl rfl, HX.out, HR.out, hP.out, HB.out⟩
  case round =>
    obtain ⟨g1, rfl⟩ : ∃ g1 : Nat, g1 = gk := ⟨_, rfl⟩
    obtain ⟨rv, fv, man, line, rfl, rfl, r1, r2, f1, f2, hfu, hdo, hman, hX, hR, hp, hbr⟩ := hrel
    clear HX HR hP HB h9 Hdr
    have Hdo := Lib.hid hdo
    clear hdo
    by_cases hin : 0 ≤ rv ∧ rv < 8 ∧ 0 ≤ fv ∧ fv < 8
    · obtain ⟨i1, i2, i3, i4⟩ := hin
      obtain ⟨n, rfl⟩ : ∃ n, g1 = n + 1 := by
        cases g1 with
        | zero => exfalso; simp [N.fuel, N.inB, i1, i2, i3, i4] at hfu
        | succ n => exact ⟨n, rfl⟩
      rw [Hfu.out n rv fv, show N.inB rv fv = true by simp [N.inB, i1, i2, i3, i4], Bool.not_true, Bool.false_or] at hfu
      obtain ⟨s, hsv⟩ : ∃ s : Nat, 8 * rv + fv = (s : Int) := ⟨(8 * rv + fv).toNat, by omega⟩
      have hs : s < 64 := by omega
      have hl := Hdo.out
      rw [Hrl.out n rv fv ⟨i1, i2, i3, i4⟩, hsv, Int.toNat_natCast, N.alongL] at hl
      have Hl := Lib.hid hl
      have Hf := Lib.hid hfu
      clear hl hfu Hdo
      obtain ⟨x0, x1⟩ := Hc.out s hs
      have hone : IntKind.u64.wrap (2 ^ s) = U (B.one s) := B.one_val s (by omega) (by omega)
      have hx2 := hX.cell 2
      change wr.cell? _ = some (.int .u64 (U line)) at hx2
      have hsz := hbr.size
      have hcm : N.mine c color s = (P.kind (c (1 + s)) != 0 && D.color (c (1 + s)) == color) := rfl
      have hgo : N.goes (P.kind (c (1 + s))) d = (P.kind (c (1 + s)) == 5 || ((u == 0 || a == 0) && P.kind (c (1 + s)) == 4 || !(u == 0 || a == 0) && P.kind (c (1 + s)) == 3)) := by
        rw [hst]
        unfold N.goes
        have : (!(d % 2 == 0)) = (d % 2 == 1) := by rw [Bool.eq_iff_iff]; simp
        rw [this]
      cases kz : (P.kind (c (1 + s)) == 0)
      · have kn : (P.kind (c (1 + s)) != 0) = true := by rw [bne, kz]; rfl
        have kq : P.kind (c (1 + s)) ≠ 0 := by simpa using kn
        have Hl1 := Hl.out
        rw [if_neg kq] at Hl1
        rw [kn, Bool.true_and] at hcm
        clear kq
        rcases hman with rfl | ⟨m0, m1⟩
        · rw [if_pos (by decide)] at Hl1
          cases hco : (D.color (c (1 + s)) == color)
          · rw [hcm, hco, if_neg (by simp)] at Hl1
            have Hl2 := Lib.hid Hl1
            clear Hl1 hcm hgo
            go_wp2_with (first
              | ((with_reducible refine wp_store_at rfl _ _ _ rfl ?_); refine ⟨w.heap.size + 1 + 1, _, _, _, _, rfl, rfl, rfl, hX, (by simp), (by first | exact Tryd.size_u64 | exact Tryd.size_int), ?_⟩; intro V hV hX2; simp only [List.setIfInBounds_toArray, List.set_cons_zero, List.set_cons_succ] at hX2; have hp2 := hV.pos hp (by omega); have hR2 := hV.row hR (by omega); replace hbr := hV.below hbr (by omega); clear hV hX hp hR; have hX := hX2; have hp := hp2; have hR := hR2; clear hX2 hp2 hR2; have hcl := hp.bd hs; have hx0 := hX.cell 0; simp only [List.getElem?_toArray, List.getElem?_cons_zero] at hx0)
              | (go_at_call 52; refine (d8kind_any _ _ x0 x1).mono ?_; rintro e w' ⟨rfl, rfl⟩)
              | (go_at_call 57; refine (d8color_any _ _ x0 x1).mono ?_; rintro e w' ⟨rfl, rfl⟩)
              | ((with_reducible refine wp_load_row' rfl _ _ rfl Tryd.underlying55 rfl ?_); refine ⟨w.heap.size + 1 + 1, _, _, rfl, hX, Tryd.size_Pin, ?_⟩)
              | ((with_reducible refine wp_store_row' rfl _ _ _ rfl ?_); refine ⟨w.heap.size + 1, 55, (N.pinV (0, 0, 0#64)).toArray, rfl, rfl, ⟨_, hR.heap, rfl⟩, Tryd.size_Pin, N.pinV_one _, ?_⟩; intro V4 hV4 hR4; replace hbr := hV4.below hbr (by omega)))
            exact bodyPost_ret (v := N.alV (0, 0, 0#64, false)) (results_cell_tmp Tryd.results46 _ _ (w.heap.size + 1) 55 _ _ _ rfl rfl hR4 Tryd.underlying55 rfl Tryd.size_Pin) rfl ⟨by rw [Hl2.out], hbr⟩
          · rw [hcm, hco, if_pos rfl] at Hl1
            have Hl2 := Lib.hid Hl1
            clear Hl1 hcm hgo
            go_wp2_with (first
              | ((with_reducible refine wp_store_at rfl _ _ _ rfl ?_); refine ⟨w.heap.size + 1 + 1, _, _, _, _, rfl, rfl, rfl, hX, (by simp), (by first | exact Tryd.size_u64 | exact Tryd.size_int), ?_⟩; intro V hV hX2; simp only [List.setIfInBounds_toArray, List.set_cons_zero, List.set_cons_succ] at hX2; have hp2 := hV.pos hp (by omega); have hR2 := hV.row hR (by omega); replace hbr := hV.below hbr (by omega); clear hV hX hp hR; have hX := hX2; have hp := hp2; have hR := hR2; clear hX2 hp2 hR2; have hcl := hp.bd hs; have hx0 := hX.cell 0; simp only [List.getElem?_toArray, List.getElem?_cons_zero] at hx0)
              | (go_at_call 52; refine (d8kind_any _ _ x0 x1).mono ?_; rintro e w' ⟨rfl, rfl⟩)
              | (go_at_call 57; refine (d8color_any _ _ x0 x1).mono ?_; rintro e w' ⟨rfl, rfl⟩))
            go_roundg n
            case measure => omega
            case rel => exact ⟨_, _, (s : Int), _, rfl, rfl, by omega, by omega, by omega, by omega, Hf.out, by rw [Hl2.out], (.inr ⟨by omega, by omega⟩), hX, hR, hp, hbr⟩
        · rw [if_neg (by omega)] at Hl1
          cases e0 : (u == 0)
          · cases e1 : (a == 0)
            · cases k5 : (P.kind (c (1 + s)) == 5)
              · cases k3 : (P.kind (c (1 + s)) == 3)
                · have hok : N.goes (P.kind (c (1 + s))) d = false := by
                    rw [hgo, k5, e0, e1, k3]
                    generalize (u == 0) = y0; generalize (a == 0) = y1; generalize (P.kind (c (1 + s)) == 4) = y2; generalize (P.kind (c (1 + s)) == 3) = y3; cases y0 <;> cases y1 <;> cases y2 <;> cases y3 <;> rfl
                  rw [hcm, hok] at Hl1
                  clear hok
                  cases hco : (D.color (c (1 + s)) == color)
                  all_goals
                    rw [hco] at Hl1
                    have Hl2 := Lib.hid Hl1
                    clear Hl1 hcm hgo
                    go_wp2_with (first
                      | ((with_reducible refine wp_store_at rfl _ _ _ rfl ?_); refine ⟨w.heap.size + 1 + 1, _, _, _, _, rfl, rfl, rfl, hX, (by simp), (by first | exact Tryd.size_u64 | exact Tryd.size_int), ?_⟩; intro V hV hX2; simp only [List.setIfInBounds_toArray, List.set_cons_zero, List.set_cons_succ] at hX2; have hp2 := hV.pos hp (by omega); have hR2 := hV.row hR (by omega); replace hbr := hV.below hbr (by omega); clear hV hX hp hR; have hX := hX2; have hp := hp2; have hR := hR2; clear hX2 hp2 hR2; have hcl := hp.bd hs; have hx0 := hX.cell 0; simp only [List.getElem?_toArray, List.getElem?_cons_zero] at hx0)
                      | (go_at_call 52; refine (d8kind_any _ _ x0 x1).mono ?_; rintro e w' ⟨rfl, rfl⟩)
                      | (go_at_call 57; refine (d8color_any _ _ x0 x1).mono ?_; rintro e w' ⟨rfl, rfl⟩)
                      | ((with_reducible refine wp_load_row' rfl _ _ rfl Tryd.underlying55 rfl ?_); refine ⟨w.heap.size + 1 + 1, _, _, rfl, hX, Tryd.size_Pin, ?_⟩)
                      | ((with_reducible refine wp_store_row' rfl _ _ _ rfl ?_); refine ⟨w.heap.size + 1, 55, (N.pinV (man, (s : Int), bOr line (B.one s))).toArray, rfl, rfl, ⟨_, hR.heap, rfl⟩, Tryd.size_Pin, N.pinV_one _, ?_⟩; intro V4 hV4 hR4; replace hbr := hV4.below hbr (by omega)))
                    refine bodyPost_ret (v := N.alV (man, (s : Int), bOr line (B.one s), _)) (results_cell_tmp Tryd.results46 _ _ (w.heap.size + 1) 55 _ _ _ rfl rfl hR4 Tryd.underlying55 rfl Tryd.size_Pin) rfl ⟨by rw [Hl2.out]; rfl, hbr⟩
                · have hok : N.goes (P.kind (c (1 + s))) d = true := by
                    rw [hgo, k5, e0, e1, k3]
                    generalize (u == 0) = y0; generalize (a == 0) = y1; generalize (P.kind (c (1 + s)) == 4) = y2; generalize (P.kind (c (1 + s)) == 3) = y3; cases y0 <;> cases y1 <;> cases y2 <;> cases y3 <;> rfl
                  rw [hcm, hok] at Hl1
                  clear hok
                  cases hco : (D.color (c (1 + s)) == color)
                  all_goals
                    rw [hco] at Hl1
                    have Hl2 := Lib.hid Hl1
                    clear Hl1 hcm hgo
                    go_wp2_with (first
                      | ((with_reducible refine wp_store_at rfl _ _ _ rfl ?_); refine ⟨w.heap.size + 1 + 1, _, _, _, _, rfl, rfl, rfl, hX, (by simp), (by first | exact Tryd.size_u64 | exact Tryd.size_int), ?_⟩; intro V hV hX2; simp only [List.setIfInBounds_toArray, List.set_cons_zero, List.set_cons_succ] at hX2; have hp2 := hV.pos hp (by omega); have hR2 := hV.row hR (by omega); replace hbr := hV.below hbr (by omega); clear hV hX hp hR; have hX := hX2; have hp := hp2; have hR := hR2; clear hX2 hp2 hR2; have hcl := hp.bd hs; have hx0 := hX.cell 0; simp only [List.getElem?_toArray, List.getElem?_cons_zero] at hx0)
                      | (go_at_call 52; refine (d8kind_any _ _ x0 x1).mono ?_; rintro e w' ⟨rfl, rfl⟩)
                      | (go_at_call 57; refine (d8color_any _ _ x0 x1).mono ?_; rintro e w' ⟨rfl, rfl⟩)
                      | ((with_reducible refine wp_load_row' rfl _ _ rfl Tryd.underlying55 rfl ?_); refine ⟨w.heap.size + 1 + 1, _, _, rfl, hX, Tryd.size_Pin, ?_⟩)
                      | ((with_reducible refine wp_store_row' rfl _ _ _ rfl ?_); refine ⟨w.heap.size + 1, 55, (N.pinV (man, (s : Int), bOr line (B.one s))).toArray, rfl, rfl, ⟨_, hR.heap, rfl⟩, Tryd.size_Pin, N.pinV_one _, ?_⟩; intro V4 hV4 hR4; replace hbr := hV4.below hbr (by omega)))
                    refine bodyPost_ret (v := N.alV (man, (s : Int), bOr line (B.one s), _)) (results_cell_tmp Tryd.results46 _ _ (w.heap.size + 1) 55 _ _ _ rfl rfl hR4 Tryd.underlying55 rfl Tryd.size_Pin) rfl ⟨by rw [Hl2.out]; rfl, hbr⟩
              · have hok : N.goes (P.kind (c (1 + s))) d = true := by
                  rw [hgo, k5]
                  generalize (u == 0) = y0; generalize (a == 0) = y1; generalize (P.kind (c (1 + s)) == 4) = y2; generalize (P.kind (c (1 + s)) == 3) = y3; cases y0 <;> cases y1 <;> cases y2 <;> cases y3 <;> rfl
                rw [hcm, hok] at Hl1
                clear hok
                cases hco : (D.color (c (1 + s)) == color)
                all_goals
                  rw [hco] at Hl1
                  have Hl2 := Lib.hid Hl1
                  clear Hl1 hcm hgo
                  go_wp2_with (first
                    | ((with_reducible refine wp_store_at rfl _ _ _ rfl ?_); refine ⟨w.heap.size + 1 + 1, _, _, _, _, rfl, rfl, rfl, hX, (by simp), (by first | exact Tryd.size_u64 | exact Tryd.size_int), ?_⟩; intro V hV hX2; simp only [List.setIfInBounds_toArray, List.set_cons_zero, List.set_cons_succ] at hX2; have hp2 := hV.pos hp (by omega); have hR2 := hV.row hR (by omega); replace hbr := hV.below hbr (by omega); clear hV hX hp hR; have hX := hX2; have hp := hp2; have hR := hR2; clear hX2 hp2 hR2; have hcl := hp.bd hs; have hx0 := hX.cell 0; simp only [List.getElem?_toArray, List.getElem?_cons_zero] at hx0)
                    | (go_at_call 52; refine (d8kind_any _ _ x0 x1).mono ?_; rintro e w' ⟨rfl, rfl⟩)
                    | (go_at_call 57; refine (d8color_any _ _ x0 x1).mono ?_; rintro e w' ⟨rfl, rfl⟩)
                    | ((with_reducible refine wp_load_row' rfl _ _ rfl Tryd.underlying55 rfl ?_); refine ⟨w.heap.size + 1 + 1, _, _, rfl, hX, Tryd.size_Pin, ?_⟩)
                    | ((with_reducible refine wp_store_row' rfl _ _ _ rfl ?_); refine ⟨w.heap.size + 1, 55, (N.pinV (man, (s : Int), bOr line (B.one s))).toArray, rfl, rfl, ⟨_, hR.heap, rfl⟩, Tryd.size_Pin, N.pinV_one _, ?_⟩; intro V4 hV4 hR4; replace hbr := hV4.below hbr (by omega)))
                  refine bodyPost_ret (v := N.alV (man, (s : Int), bOr line (B.one s), _)) (results_cell_tmp Tryd.results46 _ _ (w.heap.size + 1) 55 _ _ _ rfl rfl hR4 Tryd.underlying55 rfl Tryd.size_Pin) rfl ⟨by rw [Hl2.out]; rfl, hbr⟩
            · cases k5 : (P.kind (c (1 + s)) == 5)
              · cases k4 : (P.kind (c (1 + s)) == 4)
                · have hok : N.goes (P.kind (c (1 + s))) d = false := by
                    rw [hgo, k5, e0, e1, k4]
                    generalize (u == 0) = y0; generalize (a == 0) = y1; generalize (P.kind (c (1 + s)) == 4) = y2; generalize (P.kind (c (1 + s)) == 3) = y3; cases y0 <;> cases y1 <;> cases y2 <;> cases y3 <;> rfl
                  rw [hcm, hok] at Hl1
                  clear hok
                  cases hco : (D.color (c (1 + s)) == color)
                  all_goals
                    rw [hco] at Hl1
                    have Hl2 := Lib.hid Hl1
                    clear Hl1 hcm hgo
                    go_wp2_with (first
                      | ((with_reducible refine wp_store_at rfl _ _ _ rfl ?_); refine ⟨w.heap.size + 1 + 1, _, _, _, _, rfl, rfl, rfl, hX, (by simp), (by first | exact Tryd.size_u64 | exact Tryd.size_int), ?_⟩; intro V hV hX2; simp only [List.setIfInBounds_toArray, List.set_cons_zero, List.set_cons_succ] at hX2; have hp2 := hV.pos hp (by omega); have hR2 := hV.row hR (by omega); replace hbr := hV.below hbr (by omega); clear hV hX hp hR; have hX := hX2; have hp := hp2; have hR := hR2; clear hX2 hp2 hR2; have hcl := hp.bd hs; have hx0 := hX.cell 0; simp only [List.getElem?_toArray, List.getElem?_cons_zero] at hx0)
                      | (go_at_call 52; refine (d8kind_any _ _ x0 x1).mono ?_; rintro e w' ⟨rfl, rfl⟩)
                      | (go_at_call 57; refine (d8color_any _ _ x0 x1).mono ?_; rintro e w' ⟨rfl, rfl⟩)
                      | ((with_reducible refine wp_load_row' rfl _ _ rfl Tryd.underlying55 rfl ?_); refine ⟨w.heap.size + 1 + 1, _, _, rfl, hX, Tryd.size_Pin, ?_⟩)
                      | ((with_reducible refine wp_store_row' rfl _ _ _ rfl ?_); refine ⟨w.heap.size + 1, 55, (N.pinV (man, (s : Int), bOr line (B.one s))).toArray, rfl, rfl, ⟨_, hR.heap, rfl⟩, Tryd.size_Pin, N.pinV_one _, ?_⟩; intro V4 hV4 hR4; replace hbr := hV4.below hbr (by omega)))
                    refine bodyPost_ret (v := N.alV (man, (s : Int), bOr line (B.one s), _)) (results_cell_tmp Tryd.results46 _ _ (w.heap.size + 1) 55 _ _ _ rfl rfl hR4 Tryd.underlying55 rfl Tryd.size_Pin) rfl ⟨by rw [Hl2.out]; rfl, hbr⟩
                · have hok : N.goes (P.kind (c (1 + s))) d = true := by
                    rw [hgo, k5, e0, e1, k4]
                    generalize (u == 0) = y0; generalize (a == 0) = y1; generalize (P.kind (c (1 + s)) == 4) = y2; generalize (P.kind (c (1 + s)) == 3) = y3; cases y0 <;> cases y1 <;> cases y2 <;> cases y3 <;> rfl
                  rw [hcm, hok] at Hl1
                  clear hok
                  cases hco : (D.color (c (1 + s)) == color)
                  all_goals
                    rw [hco] at Hl1
                    have Hl2 := Lib.hid Hl1
                    clear Hl1 hcm hgo
                    go_wp2_with (first
                      | ((with_reducible refine wp_store_at rfl _ _ _ rfl ?_); refine ⟨w.heap.size + 1 + 1, _, _, _, _, rfl, rfl, rfl, hX, (by simp), (by first | exact Tryd.size_u64 | exact Tryd.size_int), ?_⟩; intro V hV hX2; simp only [List.setIfInBounds_toArray, List.set_cons_zero, List.set_cons_succ] at hX2; have hp2 := hV.pos hp (by omega); have hR2 := hV.row hR (by omega); replace hbr := hV.below hbr (by omega); clear hV hX hp hR; have hX := hX2; have hp := hp2; have hR := hR2; clear hX2 hp2 hR2; have hcl := hp.bd hs; have hx0 := hX.cell 0; simp only [List.getElem?_toArray, List.getElem?_cons_zero] at hx0)
                      | (go_at_call 52; refine (d8kind_any _ _ x0 x1).mono ?_; rintro e w' ⟨rfl, rfl⟩)
                      | (go_at_call 57; refine (d8color_any _ _ x0 x1).mono ?_; rintro e w' ⟨rfl, rfl⟩)
                      | ((with_reducible refine wp_load_row' rfl _ _ rfl Tryd.underlying55 rfl ?_); refine ⟨w.heap.size + 1 + 1, _, _, rfl, hX, Tryd.size_Pin, ?_⟩)
                      | ((with_reducible refine wp_store_row' rfl _ _ _ rfl ?_); refine ⟨w.heap.size + 1, 55, (N.pinV (man, (s : Int), bOr line (B.one s))).toArray, rfl, rfl, ⟨_, hR.heap, rfl⟩, Tryd.size_Pin, N.pinV_one _, ?_⟩; intro V4 hV4 hR4; replace hbr := hV4.below hbr (by omega)))
                    refine bodyPost_ret (v := N.alV (man, (s : Int), bOr line (B.one s), _)) (results_cell_tmp Tryd.results46 _ _ (w.heap.size + 1) 55 _ _ _ rfl rfl hR4 Tryd.underlying55 rfl Tryd.size_Pin) rfl ⟨by rw [Hl2.out]; rfl, hbr⟩
              · have hok : N.goes (P.kind (c (1 + s))) d = true := by
                  rw [hgo, k5]
                  generalize (u == 0) = y0; generalize (a == 0) = y1; generalize (P.kind (c (1 + s)) == 4) = y2; generalize (P.kind (c (1 + s)) == 3) = y3; cases y0 <;> cases y1 <;> cases y2 <;> cases y3 <;> rfl
                rw [hcm, hok] at Hl1
                clear hok
                cases hco : (D.color (c (1 + s)) == color)
                all_goals
                  rw [hco] at Hl1
                  have Hl2 := Lib.hid Hl1
                  clear Hl1 hcm hgo
                  go_wp2_with (first
                    | ((with_reducible refine wp_store_at rfl _ _ _ rfl ?_); refine ⟨w.heap.size + 1 + 1, _, _, _, _, rfl, rfl, rfl, hX, (by simp), (by first | exact Tryd.size_u64 | exact Tryd.size_int), ?_⟩; intro V hV hX2; simp only [List.setIfInBounds_toArray, List.set_cons_zero, List.set_cons_succ] at hX2; have hp2 := hV.pos hp (by omega); have hR2 := hV.row hR (by omega); replace hbr := hV.below hbr (by omega); clear hV hX hp hR; have hX := hX2; have hp := hp2; have hR := hR2; clear hX2 hp2 hR2; have hcl := hp.bd hs; have hx0 := hX.cell 0; simp only [List.getElem?_toArray, List.getElem?_cons_zero] at hx0)
                    | (go_at_call 52; refine (d8kind_any _ _ x0 x1).mono ?_; rintro e w' ⟨rfl, rfl⟩)
                    | (go_at_call 57; refine (d8color_any _ _ x0 x1).mono ?_; rintro e w' ⟨rfl, rfl⟩)
                    | ((with_reducible refine wp_load_row' rfl _ _ rfl Tryd.underlying55 rfl ?_); refine ⟨w.heap.size + 1 + 1, _, _, rfl, hX, Tryd.size_Pin, ?_⟩)
                    | ((with_reducible refine wp_store_row' rfl _ _ _ rfl ?_); refine ⟨w.heap.size + 1, 55, (N.pinV (man, (s : Int), bOr line (B.one s))).toArray, rfl, rfl, ⟨_, hR.heap, rfl⟩, Tryd.size_Pin, N.pinV_one _, ?_⟩; intro V4 hV4 hR4; replace hbr := hV4.below hbr (by omega)))
                  refine bodyPost_ret (v := N.alV (man, (s : Int), bOr line (B.one s), _)) (results_cell_tmp Tryd.results46 _ _ (w.heap.size + 1) 55 _ _ _ rfl rfl hR4 Tryd.underlying55 rfl Tryd.size_Pin) rfl ⟨by rw [Hl2.out]; rfl, hbr⟩
          · cases k5 : (P.kind (c (1 + s)) == 5)
            · cases k4 : (P.kind (c (1 + s)) == 4)
              · have hok : N.goes (P.kind (c (1 + s))) d = false := by
                  rw [hgo, k5, e0, k4]
                  generalize (u == 0) = y0; generalize (a == 0) = y1; generalize (P.kind (c (1 + s)) == 4) = y2; generalize (P.kind (c (1 + s)) == 3) = y3; cases y0 <;> cases y1 <;> cases y2 <;> cases y3 <;> rfl
                rw [hcm, hok] at Hl1
                clear hok
                cases hco : (D.color (c (1 + s)) == color)
                all_goals
                  rw [hco] at Hl1
                  have Hl2 := Lib.hid Hl1
                  clear Hl1 hcm hgo
                  go_wp2_with (first
                    | ((with_reducible refine wp_store_at rfl _ _ _ rfl ?_); refine ⟨w.heap.size + 1 + 1, _, _, _, _, rfl, rfl, rfl, hX, (by simp), (by first | exact Tryd.size_u64 | exact Tryd.size_int), ?_⟩; intro V hV hX2; simp only [List.setIfInBounds_toArray, List.set_cons_zero, List.set_cons_succ] at hX2; have hp2 := hV.pos hp (by omega); have hR2 := hV.row hR (by omega); replace hbr := hV.below hbr (by omega); clear hV hX hp hR; have hX := hX2; have hp := hp2; have hR := hR2; clear hX2 hp2 hR2; have hcl := hp.bd hs; have hx0 := hX.cell 0; simp only [List.getElem?_toArray, List.getElem?_cons_zero] at hx0)
                    | (go_at_call 52; refine (d8kind_any _ _ x0 x1).mono ?_; rintro e w' ⟨rfl, rfl⟩)
                    | (go_at_call 57; refine (d8color_any _ _ x0 x1).mono ?_; rintro e w' ⟨rfl, rfl⟩)
                    | ((with_reducible refine wp_load_row' rfl _ _ rfl Tryd.underlying55 rfl ?_); refine ⟨w.heap.size + 1 + 1, _, _, rfl, hX, Tryd.size_Pin, ?_⟩)
                    | ((with_reducible refine wp_store_row' rfl _ _ _ rfl ?_); refine ⟨w.heap.size + 1, 55, (N.pinV (man, (s : Int), bOr line (B.one s))).toArray, rfl, rfl, ⟨_, hR.heap, rfl⟩, Tryd.size_Pin, N.pinV_one _, ?_⟩; intro V4 hV4 hR4; replace hbr := hV4.below hbr (by omega)))
                  refine bodyPost_ret (v := N.alV (man, (s : Int), bOr line (B.one s), _)) (results_cell_tmp Tryd.results46 _ _ (w.heap.size + 1) 55 _ _ _ rfl rfl hR4 Tryd.underlying55 rfl Tryd.size_Pin) rfl ⟨by rw [Hl2.out]; rfl, hbr⟩
              · have hok : N.goes (P.kind (c (1 + s))) d = true := by
                  rw [hgo, k5, e0, k4]
                  generalize (u == 0) = y0; generalize (a == 0) = y1; generalize (P.kind (c (1 + s)) == 4) = y2; generalize (P.kind (c (1 + s)) == 3) = y3; cases y0 <;> cases y1 <;> cases y2 <;> cases y3 <;> rfl
                rw [hcm, hok] at Hl1
                clear hok
                cases hco : (D.color (c (1 + s)) == color)
                all_goals
                  rw [hco] at Hl1
                  have Hl2 := Lib.hid Hl1
                  clear Hl1 hcm hgo
                  go_wp2_with (first
                    | ((with_reducible refine wp_store_at rfl _ _ _ rfl ?_); refine ⟨w.heap.size + 1 + 1, _, _, _, _, rfl, rfl, rfl, hX, (by simp), (by first | exact Tryd.size_u64 | exact Tryd.size_int), ?_⟩; intro V hV hX2; simp only [List.setIfInBounds_toArray, List.set_cons_zero, List.set_cons_succ] at hX2; have hp2 := hV.pos hp (by omega); have hR2 := hV.row hR (by omega); replace hbr := hV.below hbr (by omega); clear hV hX hp hR; have hX := hX2; have hp := hp2; have hR := hR2; clear hX2 hp2 hR2; have hcl := hp.bd hs; have hx0 := hX.cell 0; simp only [List.getElem?_toArray, List.getElem?_cons_zero] at hx0)
                    | (go_at_call 52; refine (d8kind_any _ _ x0 x1).mono ?_; rintro e w' ⟨rfl, rfl⟩)
                    | (go_at_call 57; refine (d8color_any _ _ x0 x1).mono ?_; rintro e w' ⟨rfl, rfl⟩)
                    | ((with_reducible refine wp_load_row' rfl _ _ rfl Tryd.underlying55 rfl ?_); refine ⟨w.heap.size + 1 + 1, _, _, rfl, hX, Tryd.size_Pin, ?_⟩)
                    | ((with_reducible refine wp_store_row' rfl _ _ _ rfl ?_); refine ⟨w.heap.size + 1, 55, (N.pinV (man, (s : Int), bOr line (B.one s))).toArray, rfl, rfl, ⟨_, hR.heap, rfl⟩, Tryd.size_Pin, N.pinV_one _, ?_⟩; intro V4 hV4 hR4; replace hbr := hV4.below hbr (by omega)))
                  refine bodyPost_ret (v := N.alV (man, (s : Int), bOr line (B.one s), _)) (results_cell_tmp Tryd.results46 _ _ (w.heap.size + 1) 55 _ _ _ rfl rfl hR4 Tryd.underlying55 rfl Tryd.size_Pin) rfl ⟨by rw [Hl2.out]; rfl, hbr⟩
            · have hok : N.goes (P.kind (c (1 + s))) d = true := by
                rw [hgo, k5]
                generalize (u == 0) = y0; generalize (a == 0) = y1; generalize (P.kind (c (1 + s)) == 4) = y2; generalize (P.kind (c (1 + s)) == 3) = y3; cases y0 <;> cases y1 <;> cases y2 <;> cases y3 <;> rfl
              rw [hcm, hok] at Hl1
              clear hok
              cases hco : (D.color (c (1 + s)) == color)
              all_goals
                rw [hco] at Hl1
                have Hl2 := Lib.hid Hl1
                clear Hl1 hcm hgo
                go_wp2_with (first
                  | ((with_reducible refine wp_store_at rfl _ _ _ rfl ?_); refine ⟨w.heap.size + 1 + 1, _, _, _, _, rfl, rfl, rfl, hX, (by simp), (by first | exact Tryd.size_u64 | exact Tryd.size_int), ?_⟩; intro V hV hX2; simp only [List.setIfInBounds_toArray, List.set_cons_zero, List.set_cons_succ] at hX2; have hp2 := hV.pos hp (by omega); have hR2 := hV.row hR (by omega); replace hbr := hV.below hbr (by omega); clear hV hX hp hR; have hX := hX2; have hp := hp2; have hR := hR2; clear hX2 hp2 hR2; have hcl := hp.bd hs; have hx0 := hX.cell 0; simp only [List.getElem?_toArray, List.getElem?_cons_zero] at hx0)
                  | (go_at_call 52; refine (d8kind_any _ _ x0 x1).mono ?_; rintro e w' ⟨rfl, rfl⟩)
                  | (go_at_call 57; refine (d8color_any _ _ x0 x1).mono ?_; rintro e w' ⟨rfl, rfl⟩)
                  | ((with_reducible refine wp_load_row' rfl _ _ rfl Tryd.underlying55 rfl ?_); refine ⟨w.heap.size + 1 + 1, _, _, rfl, hX, Tryd.size_Pin, ?_⟩)
                  | ((with_reducible refine wp_store_row' rfl _ _ _ rfl ?_); refine ⟨w.heap.size + 1, 55, (N.pinV (man, (s : Int), bOr line (B.one s))).toArray, rfl, rfl, ⟨_, hR.heap, rfl⟩, Tryd.size_Pin, N.pinV_one _, ?_⟩; intro V4 hV4 hR4; replace hbr := hV4.below hbr (by omega)))
                refine bodyPost_ret (v := N.alV (man, (s : Int), bOr line (B.one s), _)) (results_cell_tmp Tryd.results46 _ _ (w.heap.size + 1) 55 _ _ _ rfl rfl hR4 Tryd.underlying55 rfl Tryd.size_Pin) rfl ⟨by rw [Hl2.out]; rfl, hbr⟩
      · have kq : P.kind (c (1 + s)) = 0 := by simpa using kz
        have kn : (P.kind (c (1 + s)) != 0) = false := by rw [bne, kz]; rfl
        have Hl1 := Hl.out
        rw [if_pos kq] at Hl1
        have Hl2 := Lib.hid Hl1
        clear Hl1 hcm hgo kq
        go_wp2_with (first
              | ((with_reducible refine wp_store_at rfl _ _ _ rfl ?_); refine ⟨w.heap.size + 1 + 1, _, _, _, _, rfl, rfl, rfl, hX, (by simp), (by first | exact Tryd.size_u64 | exact Tryd.size_int), ?_⟩; intro V hV hX2; simp only [List.setIfInBounds_toArray, List.set_cons_zero, List.set_cons_succ] at hX2; have hp2 := hV.pos hp (by omega); have hR2 := hV.row hR (by omega); replace hbr := hV.below hbr (by omega); clear hV hX hp hR; have hX := hX2; have hp := hp2; have hR := hR2; clear hX2 hp2 hR2; have hcl := hp.bd hs; have hx0 := hX.cell 0; simp only [List.getElem?_toArray, List.getElem?_cons_zero] at hx0)
              | (go_at_call 52; refine (d8kind_any _ _ x0 x1).mono ?_; rintro e w' ⟨rfl, rfl⟩)
              | (go_at_call 57; refine (d8color_any _ _ x0 x1).mono ?_; rintro e w' ⟨rfl, rfl⟩))
        go_roundg n
        case measure => omega
        case rel => exact ⟨_, _, man, _, rfl, rfl, by omega, by omega, by omega, by omega, Hf.out, by rw [Hl2.out], hman, hX, hR, hp, hbr⟩
    · have Hl2 := Lib.hid (show N.docR c color k d = (0, 0, 0#64, false) by rw [Hdo.out, N.rlTo_out k d g1 rv fv hin, N.alongL])
      clear Hdo
      have hsz := hbr.size
      by_cases i1 : 0 ≤ rv
      · by_cases i2 : rv < 8
        · by_cases i3 : 0 ≤ fv
          · have i4 : ¬ fv < 8 := fun h => hin ⟨i1, i2, i3, h⟩
            clear hin
            go_wp2_with (first
              | ((with_reducible refine wp_load_row' rfl _ _ rfl Tryd.underlying55 rfl ?_); refine ⟨w.heap.size + 1 + 1, _, _, rfl, hX, Tryd.size_Pin, ?_⟩)
              | ((with_reducible refine wp_store_row' rfl _ _ _ rfl ?_); refine ⟨w.heap.size + 1, 55, (N.pinV (0, 0, 0#64)).toArray, rfl, rfl, ⟨_, hR.heap, rfl⟩, Tryd.size_Pin, N.pinV_one _, ?_⟩; intro V4 hV4 hR4; replace hbr := hV4.below hbr (by omega)))
            exact bodyPost_ret (v := N.alV (0, 0, 0#64, false)) (results_cell_tmp Tryd.results46 _ _ (w.heap.size + 1) 55 _ _ _ rfl rfl hR4 Tryd.underlying55 rfl Tryd.size_Pin) rfl ⟨by rw [Hl2.out], hbr⟩
          · clear hin
            go_wp2_with (first
              | ((with_reducible refine wp_load_row' rfl _ _ rfl Tryd.underlying55 rfl ?_); refine ⟨w.heap.size + 1 + 1, _, _, rfl, hX, Tryd.size_Pin, ?_⟩)
              | ((with_reducible refine wp_store_row' rfl _ _ _ rfl ?_); refine ⟨w.heap.size + 1, 55, (N.pinV (0, 0, 0#64)).toArray, rfl, rfl, ⟨_, hR.heap, rfl⟩, Tryd.size_Pin, N.pinV_one _, ?_⟩; intro V4 hV4 hR4; replace hbr := hV4.below hbr (by omega)))
            exact bodyPost_ret (v := N.alV (0, 0, 0#64, false)) (results_cell_tmp Tryd.results46 _ _ (w.heap.size + 1) 55 _ _ _ rfl rfl hR4 Tryd.underlying55 rfl Tryd.size_Pin) rfl ⟨by rw [Hl2.out], hbr⟩
        · clear hin
          go_wp2_with (first
              | ((with_reducible refine wp_load_row' rfl _ _ rfl Tryd.underlying55 rfl ?_); refine ⟨w.heap.size + 1 + 1, _, _, rfl, hX, Tryd.size_Pin, ?_⟩)
              | ((with_reducible refine wp_store_row' rfl _ _ _ rfl ?_); refine ⟨w.heap.size + 1, 55, (N.pinV (0, 0, 0#64)).toArray, rfl, rfl, ⟨_, hR.heap, rfl⟩, Tryd.size_Pin, N.pinV_one _, ?_⟩; intro V4 hV4 hR4; replace hbr := hV4.below hbr (by omega)))
          exact bodyPost_ret (v := N.alV (0, 0, 0#64, false)) (results_cell_tmp Tryd.results46 _ _ (w.heap.size + 1) 55 _ _ _ rfl rfl hR4 Tryd.underlying55 rfl Tryd.size_Pin) rfl ⟨by rw [Hl2.out], hbr⟩
      · clear hin
        go_wp2_with (first
              | ((with_reducible refine wp_load_row' rfl _ _ rfl Tryd.underlying55 rfl ?_); refine ⟨w.heap.size + 1 + 1, _, _, rfl, hX, Tryd.size_Pin, ?_⟩)
              | ((with_reducible refine wp_store_row' rfl _ _ _ rfl ?_); refine ⟨w.heap.size + 1, 55, (N.pinV (0, 0, 0#64)).toArray, rfl, rfl, ⟨_, hR.heap, rfl⟩, Tryd.size_Pin, N.pinV_one _, ?_⟩; intro V4 hV4 hR4; replace hbr := hV4.below hbr (by omega)))
        exact bodyPost_ret (v := N.alV (0, 0, 0#64, false)) (results_cell_tmp Tryd.results46 _ _ (w.heap.size + 1) 55 _ _ _ rfl rfl hR4 Tryd.underlying55 rfl Tryd.size_Pin) rfl ⟨by rw [Hl2.out], hbr⟩


end Go.Proofs.YtnkkhdcjbjiimaaDoor
