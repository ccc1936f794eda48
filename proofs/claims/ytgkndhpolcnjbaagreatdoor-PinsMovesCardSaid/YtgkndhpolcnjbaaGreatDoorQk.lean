/- Several texts in one: SideC, Prom, Each, EachM. -/

import Derived.Test.YtgkndhpolcnjbaaGreatDoorQj
import Derived.Test.YtgkndhpolcnjbaaGreatDoorQh
import Derived.Test.YtgkndhpolcnjbaaGreatDoorQd
namespace Go.Proofs.YtgkndhpolcnjbaaGreatDoor
open Go.RowKit Go.Sort
attribute [local go_sem] Oper.semAt_some
namespace Z
def base (c : Nat → Int) (o h : BitVec 64) (s : Nat) (k : Int) : BitVec 64 :=
  if k = 1 then pawn c o h (c 78).toNat s else if k = 2 then R.knight s else if k = 3 then L.bishop s (bOr o h) else if k = 4 then L.rook s (bOr o h) else if k = 5 then L.queen s (bOr o h)
  else if k = 6 then (if c 0 = 3 then bAndn (R.king s) h else R.king s) else 0#64
/-- Where a piece may go. -/
def dest (c : Nat → Int) (o h : BitVec 64) (s : Nat) : BitVec 64 := bAndn (base c o h s (P.kind (c (1 + s)))) o
end Z
set_option maxRecDepth 100000 in
set_option maxHeartbeats 8000000 in
theorem zto_any (c : Nat → Int) (o h : BitVec 64) (s : Nat) (w : World) (hc : PosOk c) (hT : Tb w) (hs : s < 64) (ht : c 78 ≤ 1) :
    Calls Tryz.prog 140 #[.agg (Z.sd c o h), .int .i64 (s : Int)] w fun e w' => e = .returned (.int .u64 (U (Z.dest c o h s))) ∧ Below w.heap.size w w' := by
  have hp := RowAt.new w (Z.sd c o h) 94
  have hb0 : Below w.heap.size w (w.alloc (.cells (Z.sd c o h) 94)) := (Below.refl _ _).alloc (Nat.le_refl _) _
  have HT := Lib.hid (tb_below hT hb0)
  obtain ⟨W, hW⟩ : ∃ W, w.alloc (.cells (Z.sd c o h) 94) = W := ⟨_, rfl⟩
  have Hc := Lib.hid hc
  obtain ⟨v0, v1⟩ := pos_u8 hc (i := 0) (by decide) rfl
  obtain ⟨t0, _⟩ := pos_u8 hc (i := 78) (by decide) rfl
  obtain ⟨b0, b1⟩ := pos_u8 hc (i := 1 + s) (by omega) (pk_board hs)
  obtain ⟨v, hv⟩ : ∃ v : Nat, c 0 = (v : Int) := ⟨(c 0).toNat, by omega⟩
  rw [hW] at hp hb0 HT
  have hown := (hp.cell 88).trans (Z.sd_own c o h)
  have hoth := (hp.cell 89).trans (Z.sd_oth c o h)
  have h0 := (hp.cell 0).trans (Z.sd_pos c o h 0 (by decide))
  rw [show pk 0 = .u8 from rfl, hv] at h0
  have hsq := (hp.cell (1 + s)).trans (Z.sd_pos c o h (1 + s) (by omega))
  rw [pk_board hs] at hsq
  obtain ⟨x, hx⟩ : ∃ x, c (1 + s) = x := ⟨_, rfl⟩
  rw [hx] at hsq b0 b1
  obtain ⟨k, hk⟩ : ∃ k, P.kind x = k := ⟨_, rfl⟩
  have HK : Hid (∀ w, Calls Tryz.prog 70 #[.int .u8 x] w fun e w' => e = .returned (.int .u8 k) ∧ w = w') := Lib.hid (fun w => by rw [← hk]; exact kind_any x w b0 b1)
  have HP : Hid (∀ w, Calls Tryz.prog 198 #[.agg (Z.sd c o h), .int .i64 (s : Int)] w fun e w' => e = .returned (.int .u64 (U (Z.pawn c o h (c 78).toNat s))) ∧ Below w.heap.size w w') := Lib.hid (fun w => zpawn_any c o h _ s w hc hs (by omega) (by omega))
  have HD : Hid (Z.dest c o h s = bAndn (Z.base c o h s k) o) := Lib.hid (by unfold Z.dest; rw [hx, hk])
  have hRow := Lib.hid hp
  have Hb := Lib.hid hb0
  have hWid : W.heap.size = w.heap.size + 1 := by rw [← hW]; simp
  clear hx hk hb0 hp hc hT
  by_cases k1 : k = 1
  · subst k1
    have E := Lib.hid (show Z.dest c o h s = bAndn (Z.pawn c o h (c 78).toNat s) o by rw [HD.out]; unfold Z.base; rfl)
    go_enter Tryz.func140, Tryz.ntmps140
    go_wp2_with (first | (go_at_call 70; refine (HK.out _).mono ?_; rintro e w' ⟨rfl, rfl⟩) | (refine wp_load_row' rfl 94 _ rfl Tryz.underlying94 rfl ⟨w.heap.size, 94, Z.sd c o h, rfl, hRow.out, Z.info _ _ _, ?_⟩) | (go_at_call 198; refine (HP.out _).mono ?_; rintro e w1 ⟨rfl, hb1⟩; have hp1 := hRow.out.below hb1; have hown1 := (hp1.cell 88).trans (Z.sd_own c o h); have hoth1 := (hp1.cell 89).trans (Z.sd_oth c o h); have h01 := (hp1.cell 0).trans (Z.sd_pos c o h 0 (by decide)); rw [show pk 0 = .u8 from rfl, hv] at h01))
    go_ret
    exact ⟨ret_int (by rw [E.out]), below_next Hb.out hb1⟩
  · have q1 : (k == 1) = false := by simp; omega
    by_cases k2 : k = 2
    · subst k2
      have E := Lib.hid (show Z.dest c o h s = bAndn (R.knight s) o by rw [HD.out]; unfold Z.base; rfl)
      go_enter Tryz.func140, Tryz.ntmps140
      go_wp2_with (first | (go_at_call 70; refine (HK.out _).mono ?_; rintro e w' ⟨rfl, rfl⟩) | (go_at_call 199; refine (knight_any _ _).mono ?_; rintro e w1 ⟨rfl, hb1⟩; have hp1 := hRow.out.below hb1; have hown1 := (hp1.cell 88).trans (Z.sd_own c o h); have hoth1 := (hp1.cell 89).trans (Z.sd_oth c o h); have h01 := (hp1.cell 0).trans (Z.sd_pos c o h 0 (by decide)); rw [show pk 0 = .u8 from rfl, hv] at h01))
      go_ret
      exact ⟨ret_int (by rw [E.out]), below_next Hb.out hb1⟩
    · have q2 : (k == 2) = false := by simp; omega
      by_cases k3 : k = 3
      · subst k3
        have E := Lib.hid (show Z.dest c o h s = bAndn (L.bishop s (bOr o h)) o by rw [HD.out]; unfold Z.base; rfl)
        go_enter Tryz.func140, Tryz.ntmps140
        go_wp2_with (first | (go_at_call 70; refine (HK.out _).mono ?_; rintro e w' ⟨rfl, rfl⟩) | (go_at_call 200; refine (bishop_any _ _ _ HT.out).mono ?_; rintro e w1 ⟨rfl, hb1⟩; have hp1 := hRow.out.below hb1; have hown1 := (hp1.cell 88).trans (Z.sd_own c o h); have hoth1 := (hp1.cell 89).trans (Z.sd_oth c o h); have h01 := (hp1.cell 0).trans (Z.sd_pos c o h 0 (by decide)); rw [show pk 0 = .u8 from rfl, hv] at h01))
        go_ret
        exact ⟨ret_int (by rw [E.out]), below_next Hb.out hb1⟩
      · have q3 : (k == 3) = false := by simp; omega
        by_cases k4 : k = 4
        · subst k4
          have E := Lib.hid (show Z.dest c o h s = bAndn (L.rook s (bOr o h)) o by rw [HD.out]; unfold Z.base; rfl)
          go_enter Tryz.func140, Tryz.ntmps140
          go_wp2_with (first | (go_at_call 70; refine (HK.out _).mono ?_; rintro e w' ⟨rfl, rfl⟩) | (go_at_call 201; refine (rook_any _ _ _ HT.out).mono ?_; rintro e w1 ⟨rfl, hb1⟩; have hp1 := hRow.out.below hb1; have hown1 := (hp1.cell 88).trans (Z.sd_own c o h); have hoth1 := (hp1.cell 89).trans (Z.sd_oth c o h); have h01 := (hp1.cell 0).trans (Z.sd_pos c o h 0 (by decide)); rw [show pk 0 = .u8 from rfl, hv] at h01))
          go_ret
          exact ⟨ret_int (by rw [E.out]), below_next Hb.out hb1⟩
        · have q4 : (k == 4) = false := by simp; omega
          by_cases k5 : k = 5
          · subst k5
            have E := Lib.hid (show Z.dest c o h s = bAndn (L.queen s (bOr o h)) o by rw [HD.out]; unfold Z.base; rfl)
            go_enter Tryz.func140, Tryz.ntmps140
            go_wp2_with (first | (go_at_call 70; refine (HK.out _).mono ?_; rintro e w' ⟨rfl, rfl⟩) | (go_at_call 202; refine (queen_any _ _ _ HT.out).mono ?_; rintro e w1 ⟨rfl, hb1⟩; have hp1 := hRow.out.below hb1; have hown1 := (hp1.cell 88).trans (Z.sd_own c o h); have hoth1 := (hp1.cell 89).trans (Z.sd_oth c o h); have h01 := (hp1.cell 0).trans (Z.sd_pos c o h 0 (by decide)); rw [show pk 0 = .u8 from rfl, hv] at h01))
            go_ret
            exact ⟨ret_int (by rw [E.out]), below_next Hb.out hb1⟩
          · have q5 : (k == 5) = false := by simp; omega
            by_cases k6 : k = 6
            · subst k6
              by_cases h3 : v = 3
              · have d3 : ((v : Int) == 3) = true := by simp; omega
                have h3' := h3
                have E := Lib.hid (show Z.dest c o h s = bAndn (bAndn (R.king s) h) o by rw [HD.out]; unfold Z.base; rw [hv]; subst h3; rfl)
                clear h3 h3'
                go_enter Tryz.func140, Tryz.ntmps140
                go_wp2_with (first | (go_at_call 70; refine (HK.out _).mono ?_; rintro e w' ⟨rfl, rfl⟩) | (go_at_call 56; refine (king_any _ _).mono ?_; rintro e w1 ⟨rfl, hb1⟩; have hp1 := hRow.out.below hb1; have hown1 := (hp1.cell 88).trans (Z.sd_own c o h); have hoth1 := (hp1.cell 89).trans (Z.sd_oth c o h); have h01 := (hp1.cell 0).trans (Z.sd_pos c o h 0 (by decide)); rw [show pk 0 = .u8 from rfl, hv] at h01))
                go_ret
                exact ⟨ret_int (by rw [E.out]), below_next Hb.out hb1⟩
              · have d3 : ((v : Int) == 3) = false := by simp; omega
                have E := Lib.hid (show Z.dest c o h s = bAndn (R.king s) o by rw [HD.out]; unfold Z.base; rw [hv, if_neg (show ¬ (v : Int) = 3 by omega)]; rfl)
                clear h3
                go_enter Tryz.func140, Tryz.ntmps140
                go_wp2_with (first | (go_at_call 70; refine (HK.out _).mono ?_; rintro e w' ⟨rfl, rfl⟩) | (go_at_call 56; refine (king_any _ _).mono ?_; rintro e w1 ⟨rfl, hb1⟩; have hp1 := hRow.out.below hb1; have hown1 := (hp1.cell 88).trans (Z.sd_own c o h); have hoth1 := (hp1.cell 89).trans (Z.sd_oth c o h); have h01 := (hp1.cell 0).trans (Z.sd_pos c o h 0 (by decide)); rw [show pk 0 = .u8 from rfl, hv] at h01))
                go_ret
                exact ⟨ret_int (by rw [E.out]), below_next Hb.out hb1⟩
            · have q6 : (k == 6) = false := by simp; omega
              have E0 := Lib.hid (show Z.base c o h s k = 0#64 by unfold Z.base; rw [if_neg k1, if_neg k2, if_neg k3, if_neg k4, if_neg k5, if_neg k6])
              clear k1 k2 k3 k4 k5 k6
              have E := Lib.hid (show Z.dest c o h s = bAndn (0#64) o by rw [HD.out]; exact congrArg (fun x => bAndn x o) E0.out)
              go_enter Tryz.func140, Tryz.ntmps140
              go_wp2_with (first | (go_at_call 70; refine (HK.out _).mono ?_; rintro e w' ⟨rfl, rfl⟩))
              go_ret
              exact ⟨ret_int (by rw [E.out]; exact bv_andNot 0#64 o), Hb.out⟩
end Go.Proofs.YtgkndhpolcnjbaaGreatDoor
namespace Go.Proofs.YtgkndhpolcnjbaaGreatDoor
open Go.RowKit Go.Sort
attribute [local go_sem] Oper.semAt_some
namespace V
def last (v : Nat) : Nat := if v = 4 then 6 else if v < 8 then 5 else 0
/-- What a pawn may become. -/
def promos (v : Nat) : List Nat := List.range' 2 (last v - 1)
def u8s (l : List Nat) : List Value := l.map fun (n : Nat) => Value.int .u8 (n : Int)
theorem of_last (v : Nat) : ∃ s a b c d e, V.of v = #[.string s, .bool a, .bool b, .bool c, .bool d, .bool e, .int .u8 (last v : Nat)] := by
  by_cases h : v < 9
  · match v, h with
    | 0, _ | 1, _ | 2, _ | 3, _ | 4, _ | 5, _ | 6, _ | 7, _ | 8, _ => exact ⟨_, _, _, _, _, _, rfl⟩
  · have hv : V.of v = #[.string ⟨#[]⟩, .bool false, .bool false, .bool false, .bool false, .bool false, .int .u8 0] := by
      unfold V.of; split <;> first | omega | rfl
    have hl : last v = 0 := by unfold last; rw [if_neg (by omega), if_neg (by omega)]
    rw [hv, hl]
    exact ⟨_, _, _, _, _, _, rfl⟩
theorem last_bd (v : Nat) : last v ≤ 6 := by unfold last; split; omega; split <;> omega
end V
theorem Tryz.info_u8L : (Tryz.prog.info? 5).map (fun i => (i.zero, i.size, i.bytes)) = some (some (.int .u8 0), 1, 1) := by kernel_rfl
set_option maxRecDepth 100000 in
set_option maxHeartbeats 2000000 in
theorem promotes_any (v : Nat) (w : World) :
    Calls Tryz.prog 204 #[.int .u8 (v : Int)] w fun e w' => ∃ x, e = .returned x ∧ w'.ownsRow w.heap.size 5 1 x (V.promos v).length (V.u8s (V.promos v)) ∧ Below w.heap.size w w' := by
  obtain ⟨s, a, b, c, d, e, hof⟩ := V.of_last v
  have HO : Hid (∀ w, Calls Tryz.prog 148 #[.int .u8 (v : Int)] w fun e' w' => e' = .returned (.agg #[.string s, .bool a, .bool b, .bool c, .bool d, .bool e, .int .u8 (V.last v : Nat)]) ∧ Below w.heap.size w w') := Lib.hid (fun w => by rw [← hof]; exact of_k v w)
  have hl6 := V.last_bd v
  obtain ⟨l, hl⟩ : ∃ l, V.last v = l := ⟨_, rfl⟩
  have HP : Hid (V.promos v = List.range' 2 (l - 1)) := Lib.hid (by unfold V.promos; rw [hl])
  rw [hl] at HO hl6
  clear hof hl
  obtain ⟨i0, hi, hz0, hz1, hz2⟩ := info_parts Tryz.info_u8L
  have hfd : ∀ w, (Instr.field 178 (.agg #[.string s, .bool a, .bool b, .bool c, .bool d, .bool e, .int .u8 (l : Int)]) 5).run Tryz.prog w = .ok (.int .u8 (l : Int)) w := fun _ => by kernel_rfl
  go_enter Tryz.func204, Tryz.ntmps204
  go_wp2
  go_loopw [3, 4] (fun x i wr => ∃ n k : Nat, n ≤ l - 1 ∧ i = .int .u8 (k : Int) ∧ k = n + 2 ∧ wr.ownsRow w.heap.size 5 1 x (List.range' 2 n).length (V.u8s (List.range' 2 n)) ∧ Below w.heap.size w wr) (fun _ i _ => 8 - (intOf i).toNat)
  case atStart => exact ⟨0, 2, by omega, rfl, rfl, World.ownsRow_nil _ _ _ _, Below.refl _ _⟩
  case round =>
    obtain ⟨n, k, hn, rfl, hk, hown, hbr⟩ := hrel
    by_cases hlt : k ≤ l
    · have d1 : decide (k ≤ l) = true := by simp; omega
      have Hst : Hid (V.u8s (List.range' 2 n) ++ [.int .u8 (k : Int)] = V.u8s (List.range' 2 (n + 1))) := Lib.hid (by
        unfold V.u8s; rw [List.range'_concat, hk]; simp [Nat.add_comm])
      have hw8 : IntKind.u8.wrap ((k : Int) + 1) = (k : Int) + 1 := by rw [IntKind.wrap_u8]; omega
      have Hk := Lib.hid (And.intro hk hlt)
      have hln : (List.range' 2 n).length ≤ 10 := by simp; omega
      have Hn := Lib.hid hn
      clear hlt hk hn
      go_wp2_with (first
        | (go_at_call 148; refine (HO.out _).mono ?_; rintro e w1 ⟨rfl, hb1⟩; replace hown := owns_below hown hb1; replace hbr := below_next hbr hb1; clear hb1; have hgs := hbr.size)
        | (at_builtin; refine wpList_append_own _ rfl _ _ 147 rfl w.heap.size 5 i0 (.int .u8 0) 1 1 Tryz.underlying147 hi hz0 hz1 hz2 rfl (by decide) _ _ _ rfl (hown.alloc _) ⟨_, 0, none⟩ 1 1 [.int .u8 (k : Int)] rfl rfl (cell_one_new _ _ _) (by simp [Value.oneCell']) (by unfold maxLen; omega) (by omega) (by simp; omega) ?_; intro v' w2 hown' hgrow _))
      refine ⟨⟨n + 1, k + 1, by have := Hk.out; omega, by go_num, by have := Hk.out; omega, ?_, ?_⟩, by simp [intOf]; have := Hk.out; omega⟩
      · rw [← Hst.out, List.length_range']
        simpa using hown'
      · exact (hbr.alloc hbr.size _).grown hgrow (by simp; omega) (fun q hq => by have := (hown.lt q hq).1; omega)
    · have d1 : decide (k ≤ l) = false := by simp; omega
      have hnl : n = l - 1 := by omega
      have HP2 := Lib.hid (hnl ▸ HP.out)
      clear hnl hlt hk hn
      go_wp2_with (go_at_call 148; refine (HO.out _).mono ?_; rintro e w1 ⟨rfl, hb1⟩; replace hown := owns_below hown hb1; replace hbr := below_next hbr hb1; clear hb1)
      go_ret
      exact ⟨_, rfl, by rw [HP2.out]; exact hown, hbr⟩
end Go.Proofs.YtgkndhpolcnjbaaGreatDoor
namespace Go.Proofs.YtgkndhpolcnjbaaGreatDoor
open Go.RowKit Go.Sort
attribute [local go_sem] Oper.semAt_some
namespace Z
def mv (a b k : Nat) : Mv := ((a : Int), (b : Int), (k : Int), 0, false)
/-- What is handed on for one square and one goal. -/
def eachL (c : Nat → Int) (t a b : Nat) : List Mv := if P.kind (c (1 + a)) = 1 ∧ rank t b = 7 then (V.promos (c 0).toNat).map (mv a b) else [mv a b 0]
def enc (m : Mv) : Array Value := #[.agg (M.cell m).toArray]
theorem one_of (c : Nat → Int) (t a b : Nat) (h : ¬ (P.kind (c (1 + a)) = 1 ∧ rank t b = 7)) : eachL c t a b = [mv a b 0] := by unfold eachL; rw [if_neg h]
end Z
set_option maxRecDepth 100000 in
set_option maxHeartbeats 4000000 in
/-- A move that is handed on once. -/
theorem each_one (n l : Nat) (n0 : Nat) (c : Nat → Int) (o h : BitVec 64) (t a b : Nat) (hc : PosOk c) (ha : a < 64) (hb : b < 64) (ht : c 78 = (t : Int)) (J : (Nat → Prop) → List Mv → World → Prop) (O : Nat → Prop) (pre : List Mv) (W : World)
    (hJ1 : Owns1 J) (hJ : J O pre W) (hn0 : n0 ≤ W.heap.size) (hO : ∀ q, O q → q < W.heap.size) (hone : ¬ (P.kind (c (1 + a)) = 1 ∧ Z.rank t b = 7))
    (hY : ∀ O' W1, J O' pre W1 → YieldAt Fence.wide (n - 1) Tryz.prog l (Z.enc (Z.mv a b 0)) W1 fun e W' => e = .returned (.bool true) ∧ J O' (pre ++ [Z.mv a b 0]) W' ∧ KO n0 O' W1 W') :
    CallsIn Fence.wide n Tryz.prog 141 #[.agg (Z.sd c o h), .agg (M.cell (Z.mv a b 0)).toArray, .func (.yield l) #[] #[]] W fun e W' => e = .returned (.bool true) ∧ J O (pre ++ [Z.mv a b 0]) W' ∧ KO n0 O W W' := by
  have hp := RowAt.new W (Z.sd c o h) 94
  have hb0 : Below W.heap.size W (W.alloc (.cells (Z.sd c o h) 94)) := (Below.refl _ _).alloc (Nat.le_refl _) _
  obtain ⟨W1, hW1⟩ : ∃ W1, W.alloc (.cells (Z.sd c o h) 94) = W1 := ⟨_, rfl⟩
  have hs1 : W1.heap.size = W.heap.size + 1 := by rw [← hW1]; simp
  rw [hW1] at hp hb0
  have hm := RowAt.new W1 (M.cell (Z.mv a b 0)).toArray 40
  have hb1 := hb0.alloc (by omega) (.cells (M.cell (Z.mv a b 0)).toArray 40)
  replace hp := hp.alloc (.cells (M.cell (Z.mv a b 0)).toArray 40)
  obtain ⟨W2, hW2⟩ : ∃ W2, W1.alloc (.cells (M.cell (Z.mv a b 0)).toArray 40) = W2 := ⟨_, rfl⟩
  have hs2 : W2.heap.size = W.heap.size + 2 := by rw [← hW2]; simp; omega
  rw [hW2] at hp hm hb1
  rw [hs1] at hm
  replace hW2 : W1.alloc (.cells #[.int .i8 (a : Int), .int .i8 (b : Int), .int .u8 0, .int .u8 0, .bool false] 40) = W2 := hW2
  replace hm : RowAt W2 (W.heap.size + 1) 40 #[.int .i8 (a : Int), .int .i8 (b : Int), .int .u8 0, .int .u8 0, .bool false] := hm
  obtain ⟨v0, v1⟩ := pos_u8 hc (i := 1 + a) (by omega) (pk_board ha)
  have hsq := (hp.cell (1 + a)).trans (Z.sd_pos c o h (1 + a) (by omega))
  rw [pk_board ha] at hsq
  have h78 := (hp.cell 78).trans (Z.sd_pos c o h 78 (by decide))
  rw [show pk 78 = .u8 from rfl, ht] at h78
  have m0 := hm.cell 0
  have m1 := hm.cell 1
  have m2 := hm.cell 2
  have m3 := hm.cell 3
  have m4 := hm.cell 4
  simp only [List.getElem?_toArray, List.getElem?_cons_zero, List.getElem?_cons_succ] at m0 m1 m2 m3 m4
  obtain ⟨x, hx⟩ : ∃ x, c (1 + a) = x := ⟨_, rfl⟩
  rw [hx] at hsq v0 v1 hone
  obtain ⟨k, hk⟩ : ∃ k, P.kind x = k := ⟨_, rfl⟩
  obtain ⟨r, hr⟩ : ∃ r, Z.rank t b = r := ⟨_, rfl⟩
  rw [hk, hr] at hone
  have HK : Hid (∀ w, Calls Tryz.prog 70 #[.int .u8 x] w fun e w' => e = .returned (.int .u8 k) ∧ w = w') := Lib.hid (fun w => by rw [← hk]; exact kind_any x w v0 v1)
  have HR : Hid (∀ w, Calls Tryz.prog 203 #[.int .u8 (t : Int), .int .i64 (b : Int)] w fun e w' => e = .returned (.int .i64 (r : Int)) ∧ w = w') := Lib.hid (fun w => by rw [← hr]; exact rank_any t b w hb)
  have HJ := Lib.hid (hJ1 O O pre W W2 hJ hb1 (fun q hq => .inl hq))
  have HY := Lib.hid (hY O W2 HJ.out)
  have HM := Lib.hid hm
  have HB := Lib.hid hb1
  clear hp hm hb0 hb1 hJ hJ1 hY hk hr hx
  have hwb : wrap64 (b : Int) = (b : Int) := IntWalk.wrap64_in _ ⟨by omega, by omega⟩
  refine callsIn_of_wp Tryz.func141 rfl trivial ?_ rfl
  simp only [Tryz.ntmps141, List.size_toArray, List.length_cons, List.length_nil, Nat.reduceAdd, Nat.reduceSub, Array.replicate_succ, Array.replicate_zero, List.push_toArray, List.append_toArray, List.nil_append, List.cons_append]
  change (Code.wpIn _ _ _ _ _ { tmps := #[.agg (Z.sd c o h), .agg #[.int .i8 (a : Int), .int .i8 (b : Int), .int .u8 0, .int .u8 0, .bool false], .func (.yield l) #[] #[], _, _, _, _, _, _, _, _, _, _, _, _, _, _, _, _, _, _, _, _, _, _, _, _, _, _, _, _, _, _, _, _, _, _, _, _, _, _, _, _, _, _, _], defers := _ } _)
  obtain ⟨fn, tmps, assign, body, hy, hR⟩ := HY.out
  change (Instr.yield l #[.agg #[.int .i8 (a : Int), .int .i8 (b : Int), .int .u8 0, .int .u8 0, .bool false]]).run _ _ = _ at hy
  by_cases hk1 : k = 1
  · have hr7 : r ≠ 7 := fun e => hone ⟨hk1, e⟩
    have d1 : (k != 1) = false := by simp; omega
    have d7 : ((r : Int) != 7) = true := by simp; omega
    clear hk1 hr7 hone
    gi_wp2_with (first
      | (refine ⟨trivial, fun h => by simp [Fence.wide] at h, ?_⟩; gi_at_call 70; refine (callsIn_wide.2 (HK.out _)).mono ?_; rintro e w' ⟨rfl, rfl⟩)
      | (refine ⟨trivial, fun h => by simp [Fence.wide] at h, ?_⟩; gi_at_call 203; refine (callsIn_wide.2 (HR.out _)).mono ?_; rintro e w' ⟨rfl, rfl⟩))
    refine ⟨fun h => by simp [Fence.wide] at h, hR.mono ?_⟩
    rintro e W3 ⟨rfl, hJ3, hk3⟩
    have HF := Lib.hid (show J O (pre ++ [Z.mv a b 0]) W3 ∧ KO n0 O W W3 from ⟨hJ3, KO.trans ⟨HB.out.mono hn0, fun q hq => HB.out.block q (hO q hq)⟩ hk3⟩)
    clear hJ3 hk3
    gi_wp2
    go_ret
    exact ⟨rfl, HF.out⟩
  · have d0 : (k == 1) = false := by simp; omega
    have d1 : (k != 1) = true := by simp; omega
    have d2 : decide (k = 1) = false := by simp; omega
    clear hone
    gi_wp2_with (first
      | (refine ⟨trivial, fun h => by simp [Fence.wide] at h, ?_⟩; gi_at_call 70; refine (callsIn_wide.2 (HK.out _)).mono ?_; rintro e w' ⟨rfl, rfl⟩)
      | (refine ⟨trivial, fun h => by simp [Fence.wide] at h, ?_⟩; gi_at_call 203; refine (callsIn_wide.2 (HR.out _)).mono ?_; rintro e w' ⟨rfl, rfl⟩))
    refine ⟨trivial, ?_⟩
    gi_wp2_with fail
    refine ⟨fun h => by simp [Fence.wide] at h, hR.mono ?_⟩
    rintro e W3 ⟨rfl, hJ3, hk3⟩
    have HF := Lib.hid (show J O (pre ++ [Z.mv a b 0]) W3 ∧ KO n0 O W W3 from ⟨hJ3, KO.trans ⟨HB.out.mono hn0, fun q hq => HB.out.block q (hO q hq)⟩ hk3⟩)
    clear hJ3 hk3
    gi_wp2
    go_ret
    exact ⟨rfl, HF.out⟩
end Go.Proofs.YtgkndhpolcnjbaaGreatDoor
namespace Go.Proofs.YtgkndhpolcnjbaaGreatDoor
open Go.RowKit Go.Sort
attribute [local go_sem] Oper.semAt_some
set_option maxRecDepth 100000 in
set_option maxHeartbeats 4000000 in
theorem each_many (n l : Nat) (n0 : Nat) (c : Nat → Int) (o h : BitVec 64) (t a b : Nat) (hc : PosOk c) (ha : a < 64) (hb : b < 64) (ht : c 78 = (t : Int)) (J : (Nat → Prop) → List Mv → World → Prop) (O : Nat → Prop) (pre : List Mv) (W : World)
    (hJ1 : Owns1 J) (hJ2 : Owns2 J) (hJ : J O pre W) (hn0 : n0 ≤ W.heap.size) (hO : ∀ q, O q → q < W.heap.size) (hk : P.kind (c (1 + a)) = 1) (hr : Z.rank t b = 7)
    (hY : ∀ O' i x W1, J O' (pre ++ ((V.promos (c 0).toNat).take i).map (Z.mv a b)) W1 → (V.promos (c 0).toNat)[i]? = some x → YieldAt Fence.wide (n - 1) Tryz.prog l (Z.enc (Z.mv a b x)) W1 fun e W' => e = .returned (.bool true) ∧ J O' (pre ++ ((V.promos (c 0).toNat).take (i + 1)).map (Z.mv a b)) W' ∧ KO n0 O' W1 W') :
    CallsIn Fence.wide n Tryz.prog 141 #[.agg (Z.sd c o h), .agg (M.cell (Z.mv a b 0)).toArray, .func (.yield l) #[] #[]] W fun e W' => e = .returned (.bool true) ∧ J O (pre ++ (V.promos (c 0).toNat).map (Z.mv a b)) W' ∧ KO n0 O W W' := by
  have hp := RowAt.new W (Z.sd c o h) 94
  have hb0 : Below W.heap.size W (W.alloc (.cells (Z.sd c o h) 94)) := (Below.refl _ _).alloc (Nat.le_refl _) _
  obtain ⟨W1, hW1⟩ : ∃ W1, W.alloc (.cells (Z.sd c o h) 94) = W1 := ⟨_, rfl⟩
  have hs1 : W1.heap.size = W.heap.size + 1 := by rw [← hW1]; simp
  rw [hW1] at hp hb0
  have hm := RowAt.new W1 (M.cell (Z.mv a b 0)).toArray 40
  have hb1 := hb0.alloc (by omega) (.cells (M.cell (Z.mv a b 0)).toArray 40)
  replace hp := hp.alloc (.cells (M.cell (Z.mv a b 0)).toArray 40)
  obtain ⟨W2, hW2⟩ : ∃ W2, W1.alloc (.cells (M.cell (Z.mv a b 0)).toArray 40) = W2 := ⟨_, rfl⟩
  have hs2 : W2.heap.size = W.heap.size + 2 := by rw [← hW2]; simp; omega
  rw [hW2] at hp hm hb1
  rw [hs1] at hm
  replace hW2 : W1.alloc (.cells #[.int .i8 (a : Int), .int .i8 (b : Int), .int .u8 0, .int .u8 0, .bool false] 40) = W2 := hW2
  replace hm : RowAt W2 (W.heap.size + 1) 40 #[.int .i8 (a : Int), .int .i8 (b : Int), .int .u8 0, .int .u8 0, .bool false] := hm
  obtain ⟨v0, v1⟩ := pos_u8 hc (i := 1 + a) (by omega) (pk_board ha)
  have hsq := (hp.cell (1 + a)).trans (Z.sd_pos c o h (1 + a) (by omega))
  rw [pk_board ha] at hsq
  have h78 := (hp.cell 78).trans (Z.sd_pos c o h 78 (by decide))
  rw [show pk 78 = .u8 from rfl, ht] at h78
  have m0 := hm.cell 0
  have m1 := hm.cell 1
  have m2 := hm.cell 2
  have m3 := hm.cell 3
  have m4 := hm.cell 4
  simp only [List.getElem?_toArray, List.getElem?_cons_zero, List.getElem?_cons_succ] at m0 m1 m2 m3 m4
  obtain ⟨x, hx⟩ : ∃ x, c (1 + a) = x := ⟨_, rfl⟩
  rw [hx] at hsq v0 v1 hk
  have HK : Hid (∀ w, Calls Tryz.prog 70 #[.int .u8 x] w fun e w' => e = .returned (.int .u8 1) ∧ w = w') := Lib.hid (fun w => by rw [← hk]; exact kind_any x w v0 v1)
  have HR : Hid (∀ w, Calls Tryz.prog 203 #[.int .u8 (t : Int), .int .i64 (b : Int)] w fun e w' => e = .returned (.int .i64 7) ∧ w = w') := Lib.hid (fun w => by have := rank_any t b w hb; rw [hr] at this; exact this)
  have HJ := Lib.hid hJ
  have HJ1 := Lib.hid hJ1
  have HJ2 := Lib.hid hJ2
  have HY := Lib.hid hY
  have HM := Lib.hid hm
  have HB := Lib.hid hb1
  have h0c := (hp.cell 0).trans (Z.sd_pos c o h 0 (by decide))
  obtain ⟨u0, _⟩ := pos_u8 hc (i := 0) (by decide) rfl
  obtain ⟨v, hv⟩ : ∃ v : Nat, c 0 = (v : Int) := ⟨(c 0).toNat, by omega⟩
  rw [show pk 0 = .u8 from rfl, hv] at h0c
  clear hp hm hb0 hb1 hJ hJ1 hJ2 hk hr hx hY
  have hwb : wrap64 (b : Int) = (b : Int) := IntWalk.wrap64_in _ ⟨by omega, by omega⟩
  obtain ⟨L, hL⟩ : ∃ L, V.promos (c 0).toNat = L := ⟨_, rfl⟩
  have HPr : Hid (∀ w, Calls Tryz.prog 204 #[.int .u8 (v : Int)] w fun e w' => ∃ x, e = .returned x ∧ w'.ownsRow w.heap.size 5 1 x L.length (V.u8s L) ∧ Below w.heap.size w w') := Lib.hid (fun w => by rw [← hL, hv, Int.toNat_natCast]; exact promotes_any v w)
  have HL6 : Hid (L.length ≤ 6) := Lib.hid (by
    rw [← hL]
    have := V.last_bd (c 0).toNat
    unfold V.promos
    simp
    omega)
  rw [hL] at HY ⊢
  refine callsIn_of_wp Tryz.func141 rfl trivial ?_ rfl
  simp only [Tryz.ntmps141, List.size_toArray, List.length_cons, List.length_nil, Nat.reduceAdd, Nat.reduceSub, Array.replicate_succ, Array.replicate_zero, List.push_toArray, List.append_toArray, List.nil_append, List.cons_append]
  change (Code.wpIn _ _ _ _ _ { tmps := #[.agg (Z.sd c o h), .agg #[.int .i8 (a : Int), .int .i8 (b : Int), .int .u8 0, .int .u8 0, .bool false], .func (.yield l) #[] #[], _, _, _, _, _, _, _, _, _, _, _, _, _, _, _, _, _, _, _, _, _, _, _, _, _, _, _, _, _, _, _, _, _, _, _, _, _, _, _, _, _, _, _], defers := _ } _)
  clear hL hv hc ht u0
  gi_wp2_with (first
    | (refine ⟨trivial, fun h => by simp [Fence.wide] at h, ?_⟩; gi_at_call 70; refine (callsIn_wide.2 (HK.out _)).mono ?_; rintro e w' ⟨rfl, rfl⟩)
    | (refine ⟨trivial, fun h => by simp [Fence.wide] at h, ?_⟩; gi_at_call 203; refine (callsIn_wide.2 (HR.out _)).mono ?_; rintro e w' ⟨rfl, rfl⟩)
    | (refine ⟨trivial, fun h => by simp [Fence.wide] at h, ?_⟩; gi_at_call 204; refine (callsIn_wide.2 (HPr.out _)).mono ?_; rintro e w3 ⟨x3, rfl, hown3, hb3⟩; obtain ⟨ao, cap, rfl, hcap, hcm, hao⟩ := row_open1 hown3))
  have hbW3 : Below W.heap.size W w3 := below_next HB.out hb3
  have hm3 := HM.out.below hb3
  have hs3 : W.heap.size + 2 ≤ w3.heap.size := by have := hb3.size; omega
  obtain ⟨O2, hO2⟩ : ∃ O2 : Nat → Prop, O2 = fun q => O q ∨ (W.heap.size ≤ q ∧ q < w3.heap.size) := ⟨_, rfl⟩
  have hj3 : J O2 pre w3 := HJ1.out O O2 pre W w3 HJ.out hbW3 (fun q hq => by rw [hO2] at hq; exact hq)
  have H3 := Lib.hid (And.intro hj3 (And.intro hm3 (And.intro hown3 (show KO n0 O W w3 from ⟨hbW3.mono hn0, fun q hq => hbW3.block q (hO q hq)⟩))))
  have HO2 := Lib.hid hO2
  clear hbW3 hm3 hj3 hown3 hb3 hO2 hao m0 m1 m2 m3 m4 hsq h78 h0c
  gi_loopw [8, 35] (fun _ i wr => ∃ m p : Nat, m ≤ L.length ∧ i = .int .i64 (m : Int) ∧ J O2 (pre ++ (L.take m).map (Z.mv a b)) wr ∧ RowAt wr (W.heap.size + 1) 40 #[.int .i8 (a : Int), .int .i8 (b : Int), .int .u8 (p : Int), .int .u8 0, .bool false] ∧ wr.ownsRow W2.heap.size 5 1 (.slice ao L.length cap) L.length (V.u8s L) ∧ KO n0 O W wr ∧ w3.heap.size ≤ wr.heap.size)
    (fun _ i _ => L.length - (intOf i).toNat)
  case atStart => exact ⟨0, 0, Nat.zero_le _, rfl, by rw [List.take_zero, List.map_nil, List.append_nil]; exact H3.out.1, H3.out.2.1, H3.out.2.2.1, H3.out.2.2.2, Nat.le_refl _⟩
  case round =>
    obtain ⟨m, p, hm, rfl, hj, hrow, hk, hko, hsz⟩ := hrel
    by_cases hlt : m < L.length
    · obtain ⟨u, hu⟩ : ∃ u, L[m]? = some u := ⟨L[m], List.getElem?_eq_getElem hlt⟩
      have HT := Lib.hid (show L.take (m + 1) = L.take m ++ [u] by rw [List.take_add_one, hu]; rfl)
      have hnm := RowAt.not_own hrow hk (by decide)
      obtain ⟨ao2, cap2, e2, hcap2, hcm2, hao2⟩ := row_open1 hk
      cases e2
      obtain ⟨kb, rfl, hkb1, hkb2, hcell⟩ := hao2 (by omega)
      have hc1 := hcell m (.int .u8 (u : Int)) (by unfold V.u8s; rw [List.getElem?_map, hu]; rfl)
      have hc2 := hrow.cell 2
      have hf2 := hrow.frozen 2
      simp only [List.getElem?_toArray, List.getElem?_cons_zero, List.getElem?_cons_succ] at hc2
      obtain ⟨W5, hW5⟩ : ∃ W5, wr.setCell ⟨W.heap.size + 1, 2, none⟩ (.int .u8 (u : Int)) = W5 := ⟨_, rfl⟩
      have hput : Put (W.heap.size + 1) wr W5 := by rw [← hW5]; exact put_setCell _ _ _ _
      have hrow5 : RowAt W5 (W.heap.size + 1) 40 #[.int .i8 (a : Int), .int .i8 (b : Int), .int .u8 (u : Int), .int .u8 0, .bool false] := by rw [← hW5]; exact hrow.setCell 2 _
      have n0' := hrow5.cell 0
      have n1 := hrow5.cell 1
      have n2 := hrow5.cell 2
      have n3 := hrow5.cell 3
      have n4 := hrow5.cell 4
      simp only [List.getElem?_toArray, List.getElem?_cons_zero, List.getElem?_cons_succ] at n0' n1 n2 n3 n4
      have HO2m := Lib.hid <| show O2 (W.heap.size + 1) by rw [HO2.out]; exact .inr ⟨by omega, by omega⟩
      have hj5 := HJ2.out O2 _ wr W5 (W.heap.size + 1) hj HO2m.out hput
      have hk5 := hput.owns hk hnm
      have hkk : wr.heap[kb]? ≠ none := fun e => by rw [Array.getElem?_eq_getElem hkb2] at e; cases e
      have hko5 : KO n0 O W W5 := ⟨hput.below hko.1 (by omega), fun q hq => (hput.block q (by have := hO q hq; omega)).trans (hko.2 q hq)⟩
      have hyy := HY.out O2 m u W5 hj5 hu
      obtain ⟨fn, tmps, assign, body, hy, hR⟩ := hyy
      change (Instr.yield l #[.agg #[.int .i8 (a : Int), .int .i8 (b : Int), .int .u8 (u : Int), .int .u8 0, .bool false]]).run _ _ = _ at hy
      have H5 := Lib.hid (And.intro hrow5 (And.intro hk5 (And.intro hko5 hput)))
      have HKB := Lib.hid (show W.heap.size ≤ kb by omega)
      have HLT := Lib.hid hlt
      clear hrow5 hk5 hko5 hput hj hrow hk hko hj5 hu hcell hao2 hkk hnm hkb1 hcap2 hcm2 hcap hcm hs1 hs2 hW2 hW1 hm hn0 hO hs3
      gi_wp2
      refine ⟨fun h => by simp [Fence.wide] at h, hR.mono ?_⟩
      rintro e W6 ⟨rfl, hJ6, hk6⟩
      have hOk : O2 kb := by
        obtain ⟨_, _, e3, _, _, h3⟩ := row_open1 H3.out.2.2.1
        cases e3
        obtain ⟨kb', e4, _, h4, _⟩ := h3 (by have := HLT.out; omega)
        cases e4
        rw [HO2.out]
        exact .inr ⟨by have := HKB.out; omega, h4⟩
      have HF := Lib.hid (show J O2 (pre ++ (L.take (m + 1)).map (Z.mv a b)) W6 ∧ RowAt W6 (W.heap.size + 1) 40 #[.int .i8 (a : Int), .int .i8 (b : Int), .int .u8 (u : Int), .int .u8 0, .bool false] ∧ W6.ownsRow W2.heap.size 5 1 (.slice (some ⟨kb, 0, none⟩) L.length cap) L.length (V.u8s L) ∧ KO n0 O W W6 ∧ w3.heap.size ≤ W6.heap.size from
        ⟨hJ6, ⟨(hk6.2 _ HO2m.out).trans H5.out.1.heap⟩, owns_same H5.out.2.1 (fun g hg => by cases hg; exact hk6.2 _ hOk), H5.out.2.2.1.trans ⟨hk6.1, fun q hq => hk6.2 q (by rw [HO2.out]; exact .inl hq)⟩, by have := hk6.1.size; have := H5.out.2.2.2.size; omega⟩)
      clear hJ6 hk6
      gi_wp2
      have HS := step_num m L.length HLT.out (Nat.le_trans HL6.out (by decide))
      have HN := HLT.out
      go_roundw
      case rel => exact ⟨m + 1, u, HN, HS.1, HF.out.1, HF.out.2.1, HF.out.2.2.1, HF.out.2.2.2.1, HF.out.2.2.2.2⟩
      case measure => exact HS.2
    · obtain rfl : m = L.length := by omega
      have HF := Lib.hid (show J O (pre ++ L.map (Z.mv a b)) wr ∧ KO n0 O W wr from ⟨by
        rw [List.take_length] at hj
        exact HJ1.out O2 O _ wr wr hj (Below.refl _ _) (fun q hq => .inl (by rw [HO2.out]; exact .inl hq)), hko⟩)
      clear hj hrow hk hko hsz hm hlt
      gi_wp2
      go_ret
      exact ⟨rfl, HF.out⟩
end Go.Proofs.YtgkndhpolcnjbaaGreatDoor
