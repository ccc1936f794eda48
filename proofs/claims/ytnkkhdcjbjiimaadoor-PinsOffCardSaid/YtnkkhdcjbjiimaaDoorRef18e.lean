/- The document's answer of layer 18: Blocks. -/
import Derived.Test.YtnkkhdcjbjiimaaDoorRef18da
import Derived.Test.YtnkkhdcjbjiimaaDoorPinsBlk
namespace Go.Proofs.YtnkkhdcjbjiimaaDoor
open Go.RowKit Go.Sort

namespace N
/-- Does the piece on s, of another color than the one given, hit k? -/
def foe (c : Nat → Int) (color : Int) (k s : Nat) : Bool := P.kind (c (1 + s)) != 0 && (D.color (c (1 + s)) != color && D.hits c s k)
def foes (c : Nat → Int) (color : Int) (k : Nat) : Nat → Nat
  | 0 => 0
  | n + 1 => foes c color k n + if foe c color k n = true then 1 else 0
def lastFoe (c : Nat → Int) (color : Int) (k : Nat) : Nat → Int
  | 0 => -1
  | n + 1 => if foe c color k n = true then (n : Int) else lastFoe c color k n
def blockIn (c : Nat → Int) (k b s : Nat) : Bool := slider (P.kind (c (1 + b))) && (((s : Int) != (k : Int)) && (((s : Int) != (b : Int)) && betw s k b))
def outTo (g : Nat → Bool) (o : BitVec 64) : Nat → BitVec 64
  | 0 => o
  | n + 1 => if g n = true then bOr (outTo g o n) (B.one n) else outTo g o n
def dblocks (c : Nat → Int) (color : Int) : BitVec 64 :=
  if color ≤ 1 ∧ 0 ≤ D.find c color 6 then
    (if foes c color (D.find c color 6).toNat 64 = 0 then ones else if 1 < foes c color (D.find c color 6).toNat 64 then 0#64
     else outTo (blockIn c (D.find c color 6).toNat (lastFoe c color (D.find c color 6).toNat 64).toNat) (B.one (lastFoe c color (D.find c color 6).toNat 64)) 64)
  else 0#64
theorem last_spec (c : Nat → Int) (color : Int) (k : Nat) : ∀ n, (foes c color k n = 0 ∧ lastFoe c color k n = -1) ∨ ∃ j : Nat, j < n ∧ lastFoe c color k n = (j : Int) ∧ foe c color k j = true
  | 0 => .inl ⟨rfl, rfl⟩
  | n + 1 => by
    rw [foes, lastFoe]
    by_cases h : foe c color k n = true
    · right; exact ⟨n, by omega, by rw [if_pos h], h⟩
    · rw [if_neg h, if_neg h]
      rcases last_spec c color k n with ⟨h1, h2⟩ | ⟨j, h1, h2, h3⟩
      · left; exact ⟨by omega, h2⟩
      · right; exact ⟨j, by omega, h2, h3⟩
theorem foes_le (c : Nat → Int) (color : Int) (k : Nat) : ∀ n, foes c color k n ≤ n
  | 0 => Nat.le_refl _
  | n + 1 => by
    have := foes_le c color k n
    rw [foes]
    split <;> omega
theorem slider_line (c : Nat → Int) (a b : Nat) (h : D.hits c a b = true) (hs : slider (P.kind (c (1 + a))) = true) : (D.straight a b || D.across a b) = true := by
  unfold slider at hs
  unfold D.hits at h
  simp only [Bool.or_eq_true, beq_iff_eq] at hs
  rcases hs with e | e | e
  · rw [e] at h; simp at h; simp [h.1]
  · rw [e] at h; simp at h; simp [h.1]
  · rw [e] at h; simp at h; simpa using h.1
theorem line_back (a b : Nat) : (D.straight b a || D.across b a) = (D.straight a b || D.across a b) := by rw [straight_back, across_back]
end N
theorem d18between_eq (s a b : Nat) (v : Bool) (w : World) (ha : a < 64) (hb : b < 64) (h : (D.straight a b || D.across a b) = true) (hv : N.betw s a b = v) :
    Calls Tryd.prog 59 #[.int .i64 (s : Int), .int .i64 (a : Int), .int .i64 (b : Int)] w fun x w' => x = .returned (.bool v) ∧ Below w.heap.size w w' := by
  rw [← hv]
  refine (d18between_any s a b w ha hb h).mono ?_
  rintro e w' ⟨rfl, hb⟩
  exact ⟨rfl, hb⟩

set_option maxRecDepth 100000 in
set_option maxHeartbeats 8000000 in
theorem d18blocks_any (c : Nat → Int) (color : Int) (w : World) (hc : BdOk c) :
    Calls Tryd.prog 33 #[.agg (posC c), .int .u8 color] w fun e w' => e = .returned (.int .u64 (U (N.dblocks c color))) ∧ Below w.heap.size w w' := by
  have Hc := Lib.hid hc
  have hfb := D.find_bd c color 6
  clear hc
  have hb0 : Below w.heap.size w (w.alloc (.cells (posC c) 31)) := (Below.refl _ _).alloc (Nat.le_refl _) _
  have hp := PosAt.new w c
  by_cases h1 : color ≤ 1
  · rcases hfb with hf | ⟨k, hk, hf⟩
    · have e := Lib.hid (show N.dblocks c color = 0#64 by unfold N.dblocks; rw [hf, if_neg (by simp)])
      have Hf := Lib.hid hf
      clear hf
      go_enter Tryd.func33, Tryd.ntmps33
      go_wp2_with (first
        | ((with_reducible refine wp_load_box rfl _ rfl ?_); refine ⟨_, _, rfl, (by assumption), ?_⟩)
        | (go_at_call 45; refine (d8find_any c _ _ _ Hc.out).mono ?_; rw [Hf.out]; rintro e u ⟨rfl, hb⟩; replace hp := hp.below hb; replace hb0 := below_next hb0 hb; clear hb))
      go_ret
      exact ⟨ret_int (by rw [e.out]; rfl), hb0⟩
    · have hbl : N.dblocks c color = if N.foes c color k 64 = 0 then N.ones else if 1 < N.foes c color k 64 then 0#64 else N.outTo (N.blockIn c k (N.lastFoe c color k 64).toNat) (B.one (N.lastFoe c color k 64)) 64 := by
        unfold N.dblocks; rw [hf, if_pos ⟨h1, by omega⟩, Int.toNat_natCast]
      have Hbl := Lib.hid hbl
      have Hf := Lib.hid hf
      clear hf hbl
      go_enter Tryd.func33, Tryd.ntmps33
      go_wp2_with (first
        | ((with_reducible refine wp_load_box rfl _ rfl ?_); refine ⟨_, _, rfl, (by assumption), ?_⟩)
        | (go_at_call 45; refine (d8find_any c _ _ _ Hc.out).mono ?_; rw [Hf.out]; rintro e u ⟨rfl, hb⟩; replace hp := hp.below hb; replace hb0 := below_next hb0 hb; clear hb))
      have HP := Lib.hid hp
      have HB := Lib.hid hb0
      clear hp hb0
      go_loopw [6, 7, 8] (fun x y i wr => ∃ n : Nat, n ≤ 64 ∧ i = .int .i64 (n : Int) ∧ x = .int .i64 (N.lastFoe c color k n) ∧ y = .int .i64 (N.foes c color k n : Int) ∧ PosAt wr w.heap.size c ∧ Below w.heap.size w wr) (fun _ _ i _ => 64 - (intOf i).toNat)
      case atStart => exact ⟨0, by omega, rfl, rfl, rfl, HP.out, HB.out⟩
      case round =>
        obtain ⟨n, hn, rfl, rfl, rfl, hp, hbr⟩ := hrel
        by_cases hlt : n < 64
        · obtain ⟨x0, x1⟩ := Hc.out n hlt
          have hcl := hp.bd hlt
          have hfl := N.foes_le c color k n
          have hfoe : N.foe c color k n = (P.kind (c (1 + n)) != 0 && (D.color (c (1 + n)) != color && D.hits c n k)) := rfl
          have hs1 : N.foes c color k (n + 1) = N.foes c color k n + if N.foe c color k n = true then 1 else 0 := rfl
          have hs2 : N.lastFoe c color k (n + 1) = if N.foe c color k n = true then (n : Int) else N.lastFoe c color k n := rfl
          rw [hfoe] at hs1 hs2
          clear hfoe
          generalize N.foes c color k n = fo at *
          generalize N.lastFoe c color k n = la at *
          cases hkz : (P.kind (c (1 + n)) != 0)
          · rw [hkz, Bool.false_and, if_neg (by simp)] at hs1 hs2
            have S1 := Lib.hid hs1
            have S2 := Lib.hid hs2
            clear hs1 hs2
            go_wp2_with (first | (go_at_call 52; refine (d8kind_any _ _ x0 x1).mono ?_; rintro e w' ⟨rfl, rfl⟩))
            exact ⟨⟨n + 1, by omega, by go_num, by rw [S2.out], by rw [S1.out]; rfl, hp, hbr⟩, by simp [intOf]; omega⟩
          · cases hco : (D.color (c (1 + n)) != color)
            · rw [hkz, hco, if_neg (by simp)] at hs1 hs2
              have S1 := Lib.hid hs1
              have S2 := Lib.hid hs2
              clear hs1 hs2
              go_wp2_with (first
                  | (go_at_call 52; refine (d8kind_any _ _ x0 x1).mono ?_; rintro e w' ⟨rfl, rfl⟩)
                  | (go_at_call 57; refine (d8color_any _ _ x0 x1).mono ?_; rintro e w' ⟨rfl, rfl⟩))
              exact ⟨⟨n + 1, by omega, by go_num, by rw [S2.out], by rw [S1.out]; rfl, hp, hbr⟩, by simp [intOf]; omega⟩
            · cases hi : D.hits c n k
              · rw [hkz, hco, hi, if_neg (by simp)] at hs1 hs2
                have S1 := Lib.hid hs1
                have S2 := Lib.hid hs2
                have Hi := Lib.hid hi
                clear hs1 hs2 hi
                go_wp2_with (first
                  | ((with_reducible refine wp_load_box_g rfl _ rfl ?_); refine ⟨_, _, rfl, (by assumption), ?_⟩)
                  | (go_at_call 52; refine (d8kind_any _ _ x0 x1).mono ?_; rintro e w' ⟨rfl, rfl⟩)
                  | (go_at_call 57; refine (d8color_any _ _ x0 x1).mono ?_; rintro e w' ⟨rfl, rfl⟩)
                  | (go_at_call 58; refine (d8hits_eq c n k _ _ Hc.out hlt hk Hi.out).mono ?_; rintro e w1 ⟨rfl, hb1⟩; replace hp := hp.below hb1; replace hbr := below_next hbr hb1; clear hb1))
                exact ⟨⟨n + 1, by omega, by go_num, by rw [S2.out], by rw [S1.out]; rfl, hp, hbr⟩, by simp [intOf]; omega⟩
              · rw [hkz, hco, hi, if_pos (by rfl)] at hs1 hs2
                have S1 := Lib.hid hs1
                have S2 := Lib.hid hs2
                have Hi := Lib.hid hi
                clear hs1 hs2 hi
                go_wp2_with (first
                  | ((with_reducible refine wp_load_box_g rfl _ rfl ?_); refine ⟨_, _, rfl, (by assumption), ?_⟩)
                  | (go_at_call 52; refine (d8kind_any _ _ x0 x1).mono ?_; rintro e w' ⟨rfl, rfl⟩)
                  | (go_at_call 57; refine (d8color_any _ _ x0 x1).mono ?_; rintro e w' ⟨rfl, rfl⟩)
                  | (go_at_call 58; refine (d8hits_eq c n k _ _ Hc.out hlt hk Hi.out).mono ?_; rintro e w1 ⟨rfl, hb1⟩; replace hp := hp.below hb1; replace hbr := below_next hbr hb1; clear hb1))
                exact ⟨⟨n + 1, by omega, by go_num, by rw [S2.out], by rw [S1.out]; go_num, hp, hbr⟩, by simp [intOf]; omega⟩
        · obtain rfl : n = 64 := by omega
          have hls := N.last_spec c color k 64
          have hfl := N.foes_le c color k 64
          by_cases c0 : N.foes c color k 64 = 0
          · have e := Lib.hid (show N.dblocks c color = N.ones by rw [Hbl.out, if_pos c0])
            clear hls
            have d0 : ((N.foes c color k 64 : Int) == 0) = true := by simp [c0]
            go_wp2
            go_ret
            exact ⟨ret_int (by rw [e.out]; rfl), hbr⟩
          · by_cases c1 : 1 < N.foes c color k 64
            · have e := Lib.hid (show N.dblocks c color = 0#64 by rw [Hbl.out, if_neg c0, if_pos c1])
              clear hls
              have d0 : ((N.foes c color k 64 : Int) == 0) = false := by simp [c0]
              go_wp2
              go_ret
              exact ⟨ret_int (by rw [e.out]; rfl), hbr⟩
            · rcases hls with ⟨h, _⟩ | ⟨j, hj, hl, hfj⟩
              · exact absurd h c0
              · have e := Lib.hid (show N.dblocks c color = N.outTo (N.blockIn c k j) (B.one (j : Int)) 64 by rw [Hbl.out, if_neg c0, if_neg c1, hl, Int.toNat_natCast])
                rw [hl]
                have d0 : ((N.foes c color k 64 : Int) == 0) = false := by simp [c0]
                generalize N.foes c color k 64 = fo at *
                have hln : N.slider (P.kind (c (1 + j))) = true → (D.straight k j || D.across k j) = true := fun h => by
                  rw [N.line_back]; refine N.slider_line c j k ?_ h
                  unfold N.foe at hfj; rw [Bool.and_eq_true, Bool.and_eq_true] at hfj; exact hfj.2.2
                have Hln := Lib.hid hln
                clear hln hl hfj Hbl
                obtain ⟨x0, x1⟩ := Hc.out j hj
                have hcl := hp.bd hj
                have hone : IntKind.u64.wrap (2 ^ j) = U (B.one j) := B.one_val j (by omega) (by omega)
                go_wp2_with (first
                  | (go_at_call 52; refine (d8kind_any _ _ x0 x1).mono ?_; rintro e w' ⟨rfl, rfl⟩))
                have HP2 := Lib.hid hp
                have HB2 := Lib.hid hbr
                clear hp hbr hcl
                have hsl : N.slider (P.kind (c (1 + j))) = (P.kind (c (1 + j)) == 4 || (P.kind (c (1 + j)) == 3 || P.kind (c (1 + j)) == 5)) := rfl
                have Hsl := Lib.hid hsl
                clear hsl
                go_loopw [9, 11] (fun x i wr => ∃ n : Nat, n ≤ 64 ∧ i = .int .i64 (n : Int) ∧ x = .int .u64 (U (N.outTo (N.blockIn c k j) (B.one (j : Int)) n)) ∧ PosAt wr w.heap.size c ∧ Below w.heap.size w wr) (fun _ i _ => 64 - (intOf i).toNat)
                case atStart => exact ⟨0, by omega, rfl, rfl, HP2.out, HB2.out⟩
                case round =>
                  obtain ⟨n, hn, rfl, rfl, hp, hbr⟩ := hrel
                  clear HP2 HB2
                  by_cases hlt : n < 64
                  · have hone2 : IntKind.u64.wrap (2 ^ n) = U (B.one n) := B.one_val n (by omega) (by omega)
                    have hs0 : N.outTo (N.blockIn c k j) (B.one (j : Int)) (n + 1) = if N.blockIn c k j n = true then bOr (N.outTo (N.blockIn c k j) (B.one (j : Int)) n) (B.one n) else N.outTo (N.blockIn c k j) (B.one (j : Int)) n := rfl
                    rw [show N.blockIn c k j n = (N.slider (P.kind (c (1 + j))) && (((n : Int) != (k : Int)) && (((n : Int) != (j : Int)) && N.betw n k j))) from rfl] at hs0
                    generalize N.outTo (N.blockIn c k j) (B.one (j : Int)) n = o at *
                    cases s4 : (P.kind (c (1 + j)) == 4) <;> cases s3 : (P.kind (c (1 + j)) == 3) <;> cases s5 : (P.kind (c (1 + j)) == 5)
                    case false.false.false =>
                      have hS := Hsl.out
                      rw [s4, s3, s5] at hS
                      rw [hS, Bool.or_self, Bool.or_self, Bool.false_and, if_neg (by simp)] at hs0
                      have S0 := Lib.hid hs0
                      clear hs0 hS
                      go_wp2_with fail
                      exact ⟨⟨n + 1, by omega, by go_num, by rw [S0.out], hp, hbr⟩, by simp [intOf]; omega⟩
                    all_goals
                      have hS : N.slider (P.kind (c (1 + j))) = true := by rw [Hsl.out, s4, s3, s5]; rfl
                      rw [hS, Bool.true_and] at hs0
                      have HS := Lib.hid hS
                      clear hS
                      cases e1 : ((n : Int) != (k : Int))
                      · rw [e1, Bool.false_and, if_neg (by simp)] at hs0
                        have S0 := Lib.hid hs0
                        clear hs0
                        go_wp2_with fail
                        exact ⟨⟨n + 1, by omega, by go_num, by rw [S0.out], hp, hbr⟩, by simp [intOf]; omega⟩
                      · cases e2 : ((n : Int) != (j : Int))
                        · rw [e1, e2, Bool.true_and, Bool.false_and, if_neg (by simp)] at hs0
                          have S0 := Lib.hid hs0
                          clear hs0
                          go_wp2_with fail
                          exact ⟨⟨n + 1, by omega, by go_num, by rw [S0.out], hp, hbr⟩, by simp [intOf]; omega⟩
                        · rw [e1, e2, Bool.true_and, Bool.true_and] at hs0
                          cases hb : N.betw n k j
                          · rw [hb, if_neg (by simp)] at hs0
                            have S0 := Lib.hid hs0
                            have Hb := Lib.hid hb
                            clear hs0 hb
                            go_wp2_with (first
                              | (go_at_call 59; refine (d18between_eq n k j false _ hk hj (Hln.out HS.out) Hb.out).mono ?_; rintro e w1 ⟨rfl, hb1⟩; replace hp := hp.below hb1; replace hbr := below_next hbr hb1; clear hb1))
                            exact ⟨⟨n + 1, by omega, by go_num, by rw [S0.out], hp, hbr⟩, by simp [intOf]; omega⟩
                          · rw [hb, if_pos rfl] at hs0
                            have S0 := Lib.hid hs0
                            have Hb := Lib.hid hb
                            clear hs0 hb
                            go_wp2_with (first
                              | (go_at_call 59; refine (d18between_eq n k j true _ hk hj (Hln.out HS.out) Hb.out).mono ?_; rintro e w1 ⟨rfl, hb1⟩; replace hp := hp.below hb1; replace hbr := below_next hbr hb1; clear hb1))
                            exact ⟨⟨n + 1, by omega, by go_num, by rw [S0.out], hp, hbr⟩, by simp [intOf]; omega⟩
                  · obtain rfl : n = 64 := by omega
                    go_wp2
                    go_ret
                    exact ⟨ret_int (by rw [e.out]), hbr⟩
  · have e := Lib.hid (show N.dblocks c color = 0#64 by unfold N.dblocks; rw [if_neg (fun h => h1 h.1)])
    go_enter Tryd.func33, Tryd.ntmps33
    go_wp2
    go_ret
    exact ⟨ret_int (by rw [e.out]; rfl), hb0⟩

end Go.Proofs.YtnkkhdcjbjiimaaDoor
