/- The program's package pseudo: where a piece may go. -/
import Derived.Test.YtlphjjekamhnlaaDoorSideB
namespace Go.Proofs.YtlphjjekamhnlaaDoor
open Go.RowKit Go.Sort
attribute [local go_sem] Oper.semAt_some

namespace Z
def base (c : Nat → Int) (o h : BitVec 64) (s : Nat) (k : Int) : BitVec 64 :=
  if k = 1 then pawn c o h (c 78).toNat s else if k = 2 then R.knight s else if k = 3 then L.bishop s (bOr o h) else if k = 4 then L.rook s (bOr o h) else if k = 5 then L.queen s (bOr o h)
  else if k = 6 then (if c 0 = 3 then bAndn (R.king s) h else R.king s) else 0#64
/-- Where a piece may go. -/
def dest (c : Nat → Int) (o h : BitVec 64) (s : Nat) : BitVec 64 := bAndn (base c o h s (P.kind (c (1 + s)))) o
end Z
set_option maxRecDepth 100000 in
set_option maxHeartbeats 8000000 in
theorem zto_any (c : Nat → Int) (o h : BitVec 64) (s : Nat) (w : World) (hc : PosOk c) (hT : Tb w) (hs : s < 64) (ht : c 78 ≤ 1) :
    Calls Tryd.prog 54 #[.agg (Z.sd c o h), .int .i64 (s : Int)] w fun e w' => e = .returned (.int .u64 (U (Z.dest c o h s))) ∧ Below w.heap.size w w' := by
  have hp := RowAt.new w (Z.sd c o h) 51
  have hb0 : Below w.heap.size w (w.alloc (.cells (Z.sd c o h) 51)) := (Below.refl _ _).alloc (Nat.le_refl _) _
  have HT := Lib.hid (tb_below hT hb0)
  obtain ⟨W, hW⟩ : ∃ W, w.alloc (.cells (Z.sd c o h) 51) = W := ⟨_, rfl⟩
  have Hc := Lib.hid hc
  obtain ⟨v0, v1⟩ := pos_u8 hc (i := 0) (by decide) rfl
  obtain ⟨t0, _⟩ := pos_u8 hc (i := 78) (by decide) rfl
  obtain ⟨b0, b1⟩ := pos_u8 hc (i := 1 + s) (by omega) (pk_board hs)
  obtain ⟨v, hv⟩ : ∃ v : Nat, c 0 = (v : Int) := ⟨(c 0).toNat, by omega⟩
  rw [hW] at hp hb0 HT
  have hown := (hp.cell 88).trans (Z.sd_own c o h)
  have hoth := (hp.cell 89).trans (Z.sd_oth c o h)
  have h0 := (hp.cell 0).trans (Z.sd_pos c o h 0 (by decide))
  rw [show pk 0 = .u8 from rfl, hv] at h0
  have hsq := (hp.cell (1 + s)).trans (Z.sd_pos c o h (1 + s) (by omega))
  rw [pk_board hs] at hsq
  obtain ⟨x, hx⟩ : ∃ x, c (1 + s) = x := ⟨_, rfl⟩
  rw [hx] at hsq b0 b1
  obtain ⟨k, hk⟩ : ∃ k, P.kind x = k := ⟨_, rfl⟩
  have HK : Hid (∀ w, Calls Tryd.prog 61 #[.int .u8 x] w fun e w' => e = .returned (.int .u8 k) ∧ w = w') := Lib.hid (fun w => by rw [← hk]; exact kind_any x w b0 b1)
  have HP : Hid (∀ w, Calls Tryd.prog 85 #[.agg (Z.sd c o h), .int .i64 (s : Int)] w fun e w' => e = .returned (.int .u64 (U (Z.pawn c o h (c 78).toNat s))) ∧ Below w.heap.size w w') := Lib.hid (fun w => zpawn_any c o h _ s w hc hs (by omega) (by omega))
  have HD : Hid (Z.dest c o h s = bAndn (Z.base c o h s k) o) := Lib.hid (by unfold Z.dest; rw [hx, hk])
  have hRow := Lib.hid hp
  have Hb := Lib.hid hb0
  have hWid : W.heap.size = w.heap.size + 1 := by rw [← hW]; simp
  clear hx hk hb0 hp hc hT
  by_cases k1 : k = 1
  · subst k1
    have E := Lib.hid (show Z.dest c o h s = bAndn (Z.pawn c o h (c 78).toNat s) o by rw [HD.out]; unfold Z.base; rfl)
    go_enter Tryd.func54, Tryd.ntmps54
    go_wp2_with (first | (go_at_call 61; refine (HK.out _).mono ?_; rintro e w' ⟨rfl, rfl⟩) | (refine wp_load_row' rfl 51 _ rfl Tryd.underlying51 rfl ⟨w.heap.size, 51, Z.sd c o h, rfl, hRow.out, Z.info _ _ _, ?_⟩) | (go_at_call 85; refine (HP.out _).mono ?_; rintro e w1 ⟨rfl, hb1⟩; have hp1 := hRow.out.below hb1; have hown1 := (hp1.cell 88).trans (Z.sd_own c o h); have hoth1 := (hp1.cell 89).trans (Z.sd_oth c o h); have h01 := (hp1.cell 0).trans (Z.sd_pos c o h 0 (by decide)); rw [show pk 0 = .u8 from rfl, hv] at h01))
    go_ret
    exact ⟨ret_int (by rw [E.out]), below_next Hb.out hb1⟩
  · have q1 : (k == 1) = false := by simp; omega
    by_cases k2 : k = 2
    · subst k2
      have E := Lib.hid (show Z.dest c o h s = bAndn (R.knight s) o by rw [HD.out]; unfold Z.base; rfl)
      go_enter Tryd.func54, Tryd.ntmps54
      go_wp2_with (first | (go_at_call 61; refine (HK.out _).mono ?_; rintro e w' ⟨rfl, rfl⟩) | (go_at_call 86; refine (knight_any _ _).mono ?_; rintro e w1 ⟨rfl, hb1⟩; have hp1 := hRow.out.below hb1; have hown1 := (hp1.cell 88).trans (Z.sd_own c o h); have hoth1 := (hp1.cell 89).trans (Z.sd_oth c o h); have h01 := (hp1.cell 0).trans (Z.sd_pos c o h 0 (by decide)); rw [show pk 0 = .u8 from rfl, hv] at h01))
      go_ret
      exact ⟨ret_int (by rw [E.out]), below_next Hb.out hb1⟩
    · have q2 : (k == 2) = false := by simp; omega
      by_cases k3 : k = 3
      · subst k3
        have E := Lib.hid (show Z.dest c o h s = bAndn (L.bishop s (bOr o h)) o by rw [HD.out]; unfold Z.base; rfl)
        go_enter Tryd.func54, Tryd.ntmps54
        go_wp2_with (first | (go_at_call 61; refine (HK.out _).mono ?_; rintro e w' ⟨rfl, rfl⟩) | (go_at_call 87; refine (bishop_any _ _ _ HT.out).mono ?_; rintro e w1 ⟨rfl, hb1⟩; have hp1 := hRow.out.below hb1; have hown1 := (hp1.cell 88).trans (Z.sd_own c o h); have hoth1 := (hp1.cell 89).trans (Z.sd_oth c o h); have h01 := (hp1.cell 0).trans (Z.sd_pos c o h 0 (by decide)); rw [show pk 0 = .u8 from rfl, hv] at h01))
        go_ret
        exact ⟨ret_int (by rw [E.out]), below_next Hb.out hb1⟩
      · have q3 : (k == 3) = false := by simp; omega
        by_cases k4 : k = 4
        · subst k4
          have E := Lib.hid (show Z.dest c o h s = bAndn (L.rook s (bOr o h)) o by rw [HD.out]; unfold Z.base; rfl)
          go_enter Tryd.func54, Tryd.ntmps54
          go_wp2_with (first | (go_at_call 61; refine (HK.out _).mono ?_; rintro e w' ⟨rfl, rfl⟩) | (go_at_call 88; refine (rook_any _ _ _ HT.out).mono ?_; rintro e w1 ⟨rfl, hb1⟩; have hp1 := hRow.out.below hb1; have hown1 := (hp1.cell 88).trans (Z.sd_own c o h); have hoth1 := (hp1.cell 89).trans (Z.sd_oth c o h); have h01 := (hp1.cell 0).trans (Z.sd_pos c o h 0 (by decide)); rw [show pk 0 = .u8 from rfl, hv] at h01))
          go_ret
          exact ⟨ret_int (by rw [E.out]), below_next Hb.out hb1⟩
        · have q4 : (k == 4) = false := by simp; omega
          by_cases k5 : k = 5
          · subst k5
            have E := Lib.hid (show Z.dest c o h s = bAndn (L.queen s (bOr o h)) o by rw [HD.out]; unfold Z.base; rfl)
            go_enter Tryd.func54, Tryd.ntmps54
            go_wp2_with (first | (go_at_call 61; refine (HK.out _).mono ?_; rintro e w' ⟨rfl, rfl⟩) | (go_at_call 89; refine (queen_any _ _ _ HT.out).mono ?_; rintro e w1 ⟨rfl, hb1⟩; have hp1 := hRow.out.below hb1; have hown1 := (hp1.cell 88).trans (Z.sd_own c o h); have hoth1 := (hp1.cell 89).trans (Z.sd_oth c o h); have h01 := (hp1.cell 0).trans (Z.sd_pos c o h 0 (by decide)); rw [show pk 0 = .u8 from rfl, hv] at h01))
            go_ret
            exact ⟨ret_int (by rw [E.out]), below_next Hb.out hb1⟩
          · have q5 : (k == 5) = false := by simp; omega
            by_cases k6 : k = 6
            · subst k6
              by_cases h3 : v = 3
              · have d3 : ((v : Int) == 3) = true := by simp; omega
                have h3' := h3
                have E := Lib.hid (show Z.dest c o h s = bAndn (bAndn (R.king s) h) o by rw [HD.out]; unfold Z.base; rw [hv]; subst h3; rfl)
                clear h3 h3'
                go_enter Tryd.func54, Tryd.ntmps54
                go_wp2_with (first | (go_at_call 61; refine (HK.out _).mono ?_; rintro e w' ⟨rfl, rfl⟩) | (go_at_call 90; refine (king_any _ _).mono ?_; rintro e w1 ⟨rfl, hb1⟩; have hp1 := hRow.out.below hb1; have hown1 := (hp1.cell 88).trans (Z.sd_own c o h); have hoth1 := (hp1.cell 89).trans (Z.sd_oth c o h); have h01 := (hp1.cell 0).trans (Z.sd_pos c o h 0 (by decide)); rw [show pk 0 = .u8 from rfl, hv] at h01))
                go_ret
                exact ⟨ret_int (by rw [E.out]), below_next Hb.out hb1⟩
              · have d3 : ((v : Int) == 3) = false := by simp; omega
                have E := Lib.hid (show Z.dest c o h s = bAndn (R.king s) o by rw [HD.out]; unfold Z.base; rw [hv, if_neg (show ¬ (v : Int) = 3 by omega)]; rfl)
                clear h3
                go_enter Tryd.func54, Tryd.ntmps54
                go_wp2_with (first | (go_at_call 61; refine (HK.out _).mono ?_; rintro e w' ⟨rfl, rfl⟩) | (go_at_call 90; refine (king_any _ _).mono ?_; rintro e w1 ⟨rfl, hb1⟩; have hp1 := hRow.out.below hb1; have hown1 := (hp1.cell 88).trans (Z.sd_own c o h); have hoth1 := (hp1.cell 89).trans (Z.sd_oth c o h); have h01 := (hp1.cell 0).trans (Z.sd_pos c o h 0 (by decide)); rw [show pk 0 = .u8 from rfl, hv] at h01))
                go_ret
                exact ⟨ret_int (by rw [E.out]), below_next Hb.out hb1⟩
            · have q6 : (k == 6) = false := by simp; omega
              have E0 := Lib.hid (show Z.base c o h s k = 0#64 by unfold Z.base; rw [if_neg k1, if_neg k2, if_neg k3, if_neg k4, if_neg k5, if_neg k6])
              clear k1 k2 k3 k4 k5 k6
              have E := Lib.hid (show Z.dest c o h s = bAndn (0#64) o by rw [HD.out]; exact congrArg (fun x => bAndn x o) E0.out)
              go_enter Tryd.func54, Tryd.ntmps54
              go_wp2_with (first | (go_at_call 61; refine (HK.out _).mono ?_; rintro e w' ⟨rfl, rfl⟩))
              go_ret
              exact ⟨ret_int (by rw [E.out]; exact bv_andNot 0#64 o), Hb.out⟩
end Go.Proofs.YtlphjjekamhnlaaDoor
