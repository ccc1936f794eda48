/- The program's package pseudo: each, where a pawn becomes something: once for each kind. -/
import Derived.Test.YtlphjjekamhnlaaDoorEach
import Derived.Test.YtlphjjekamhnlaaDoorOwnL
namespace Go.Proofs.YtlphjjekamhnlaaDoor
open Go.RowKit Go.Sort
attribute [local go_sem] Oper.semAt_some

set_option maxRecDepth 100000 in
set_option maxHeartbeats 4000000 in
theorem each_many (n l : Nat) (n0 : Nat) (c : Nat → Int) (o h : BitVec 64) (t a b : Nat) (hc : PosOk c) (ha : a < 64) (hb : b < 64) (ht : c 78 = (t : Int)) (J : (Nat → Prop) → List Mv → World → Prop) (O : Nat → Prop) (pre : List Mv) (W : World)
    (hJ1 : Owns1 J) (hJ2 : Owns2 J) (hJ : J O pre W) (hn0 : n0 ≤ W.heap.size) (hO : ∀ q, O q → q < W.heap.size) (hk : P.kind (c (1 + a)) = 1) (hr : Z.rank t b = 7)
    (hY : ∀ O' i x W1, J O' (pre ++ ((V.promos (c 0).toNat).take i).map (Z.mv a b)) W1 → (V.promos (c 0).toNat)[i]? = some x → YieldAt Fence.wide (n - 1) Tryd.prog l (Z.enc (Z.mv a b x)) W1 fun e W' => e = .returned (.bool true) ∧ J O' (pre ++ ((V.promos (c 0).toNat).take (i + 1)).map (Z.mv a b)) W' ∧ KO n0 O' W1 W') :
    CallsIn Fence.wide n Tryd.prog 55 #[.agg (Z.sd c o h), .agg (M.cell (Z.mv a b 0)).toArray, .func (.yield l) #[] #[]] W fun e W' => e = .returned (.bool true) ∧ J O (pre ++ (V.promos (c 0).toNat).map (Z.mv a b)) W' ∧ KO n0 O W W' := by
  have hp := RowAt.new W (Z.sd c o h) 51
  have hb0 : Below W.heap.size W (W.alloc (.cells (Z.sd c o h) 51)) := (Below.refl _ _).alloc (Nat.le_refl _) _
  obtain ⟨W1, hW1⟩ : ∃ W1, W.alloc (.cells (Z.sd c o h) 51) = W1 := ⟨_, rfl⟩
  have hs1 : W1.heap.size = W.heap.size + 1 := by rw [← hW1]; simp
  rw [hW1] at hp hb0
  have hm := RowAt.new W1 (M.cell (Z.mv a b 0)).toArray 36
  have hb1 := hb0.alloc (by omega) (.cells (M.cell (Z.mv a b 0)).toArray 36)
  replace hp := hp.alloc (.cells (M.cell (Z.mv a b 0)).toArray 36)
  obtain ⟨W2, hW2⟩ : ∃ W2, W1.alloc (.cells (M.cell (Z.mv a b 0)).toArray 36) = W2 := ⟨_, rfl⟩
  have hs2 : W2.heap.size = W.heap.size + 2 := by rw [← hW2]; simp; omega
  rw [hW2] at hp hm hb1
  rw [hs1] at hm
  replace hW2 : W1.alloc (.cells #[.int .i8 (a : Int), .int .i8 (b : Int), .int .u8 0, .int .u8 0, .bool false] 36) = W2 := hW2
  replace hm : RowAt W2 (W.heap.size + 1) 36 #[.int .i8 (a : Int), .int .i8 (b : Int), .int .u8 0, .int .u8 0, .bool false] := hm
  obtain ⟨v0, v1⟩ := pos_u8 hc (i := 1 + a) (by omega) (pk_board ha)
  have hsq := (hp.cell (1 + a)).trans (Z.sd_pos c o h (1 + a) (by omega))
  rw [pk_board ha] at hsq
  have h78 := (hp.cell 78).trans (Z.sd_pos c o h 78 (by decide))
  rw [show pk 78 = .u8 from rfl, ht] at h78
  have m0 := hm.cell 0
  have m1 := hm.cell 1
  have m2 := hm.cell 2
  have m3 := hm.cell 3
  have m4 := hm.cell 4
  simp only [List.getElem?_toArray, List.getElem?_cons_zero, List.getElem?_cons_succ] at m0 m1 m2 m3 m4
  obtain ⟨x, hx⟩ : ∃ x, c (1 + a) = x := ⟨_, rfl⟩
  rw [hx] at hsq v0 v1 hk
  have HK : Hid (∀ w, Calls Tryd.prog 61 #[.int .u8 x] w fun e w' => e = .returned (.int .u8 1) ∧ w = w') := Lib.hid (fun w => by rw [← hk]; exact kind_any x w v0 v1)
  have HR : Hid (∀ w, Calls Tryd.prog 91 #[.int .u8 (t : Int), .int .i64 (b : Int)] w fun e w' => e = .returned (.int .i64 7) ∧ w = w') := Lib.hid (fun w => by have := rank_any t b w hb; rw [hr] at this; exact this)
  have HJ := Lib.hid hJ
  have HJ1 := Lib.hid hJ1
  have HJ2 := Lib.hid hJ2
  have HY := Lib.hid hY
  have HM := Lib.hid hm
  have HB := Lib.hid hb1
  have h0c := (hp.cell 0).trans (Z.sd_pos c o h 0 (by decide))
  obtain ⟨u0, _⟩ := pos_u8 hc (i := 0) (by decide) rfl
  obtain ⟨v, hv⟩ : ∃ v : Nat, c 0 = (v : Int) := ⟨(c 0).toNat, by omega⟩
  rw [show pk 0 = .u8 from rfl, hv] at h0c
  clear hp hm hb0 hb1 hJ hJ1 hJ2 hk hr hx hY
  have hwb : wrap64 (b : Int) = (b : Int) := IntWalk.wrap64_in _ ⟨by omega, by omega⟩
  obtain ⟨L, hL⟩ : ∃ L, V.promos (c 0).toNat = L := ⟨_, rfl⟩
  have HPr : Hid (∀ w, Calls Tryd.prog 92 #[.int .u8 (v : Int)] w fun e w' => ∃ x, e = .returned x ∧ w'.ownsRow w.heap.size 5 1 x L.length (V.u8s L) ∧ Below w.heap.size w w') := Lib.hid (fun w => by rw [← hL, hv, Int.toNat_natCast]; exact promotes_any v w)
  have HL6 : Hid (L.length ≤ 6) := Lib.hid (by
    rw [← hL]
    have := V.last_bd (c 0).toNat
    unfold V.promos
    simp
    omega)
  rw [hL] at HY ⊢
  refine callsIn_of_wp Tryd.func55 rfl trivial ?_ rfl
  simp only [Tryd.ntmps55, List.size_toArray, List.length_cons, List.length_nil, Nat.reduceAdd, Nat.reduceSub, Array.replicate_succ, Array.replicate_zero, List.push_toArray, List.append_toArray, List.nil_append, List.cons_append]
  change (Code.wpIn _ _ _ _ _ { tmps := #[.agg (Z.sd c o h), .agg #[.int .i8 (a : Int), .int .i8 (b : Int), .int .u8 0, .int .u8 0, .bool false], .func (.yield l) #[] #[], _, _, _, _, _, _, _, _, _, _, _, _, _, _, _, _, _, _, _, _, _, _, _, _, _, _, _, _, _, _, _, _, _, _, _, _, _, _, _, _, _, _, _], defers := _ } _)
  clear hL hv hc ht u0
  gi_wp2_with (first
    | (refine ⟨trivial, fun h => by simp [Fence.wide] at h, ?_⟩; gi_at_call 61; refine (callsIn_wide.2 (HK.out _)).mono ?_; rintro e w' ⟨rfl, rfl⟩)
    | (refine ⟨trivial, fun h => by simp [Fence.wide] at h, ?_⟩; gi_at_call 91; refine (callsIn_wide.2 (HR.out _)).mono ?_; rintro e w' ⟨rfl, rfl⟩)
    | (refine ⟨trivial, fun h => by simp [Fence.wide] at h, ?_⟩; gi_at_call 92; refine (callsIn_wide.2 (HPr.out _)).mono ?_; rintro e w3 ⟨x3, rfl, hown3, hb3⟩; obtain ⟨ao, cap, rfl, hcap, hcm, hao⟩ := row_open1 hown3))
  have hbW3 : Below W.heap.size W w3 := below_next HB.out hb3
  have hm3 := HM.out.below hb3
  have hs3 : W.heap.size + 2 ≤ w3.heap.size := by have := hb3.size; omega
  obtain ⟨O2, hO2⟩ : ∃ O2 : Nat → Prop, O2 = fun q => O q ∨ (W.heap.size ≤ q ∧ q < w3.heap.size) := ⟨_, rfl⟩
  have hj3 : J O2 pre w3 := HJ1.out O O2 pre W w3 HJ.out hbW3 (fun q hq => by rw [hO2] at hq; exact hq)
  have H3 := Lib.hid (And.intro hj3 (And.intro hm3 (And.intro hown3 (show KO n0 O W w3 from ⟨hbW3.mono hn0, fun q hq => hbW3.block q (hO q hq)⟩))))
  have HO2 := Lib.hid hO2
  clear hbW3 hm3 hj3 hown3 hb3 hO2 hao m0 m1 m2 m3 m4 hsq h78 h0c
  gi_loopw [8, 35] (fun _ i wr => ∃ m p : Nat, m ≤ L.length ∧ i = .int .i64 (m : Int) ∧ J O2 (pre ++ (L.take m).map (Z.mv a b)) wr ∧ RowAt wr (W.heap.size + 1) 36 #[.int .i8 (a : Int), .int .i8 (b : Int), .int .u8 (p : Int), .int .u8 0, .bool false] ∧ wr.ownsRow W2.heap.size 5 1 (.slice ao L.length cap) L.length (V.u8s L) ∧ KO n0 O W wr ∧ w3.heap.size ≤ wr.heap.size)
    (fun _ i _ => L.length - (intOf i).toNat)
  case atStart => exact ⟨0, 0, Nat.zero_le _, rfl, by rw [List.take_zero, List.map_nil, List.append_nil]; exact H3.out.1, H3.out.2.1, H3.out.2.2.1, H3.out.2.2.2, Nat.le_refl _⟩
  case round =>
    obtain ⟨m, p, hm, rfl, hj, hrow, hk, hko, hsz⟩ := hrel
    by_cases hlt : m < L.length
    · obtain ⟨u, hu⟩ : ∃ u, L[m]? = some u := ⟨L[m], List.getElem?_eq_getElem hlt⟩
      have HT := Lib.hid (show L.take (m + 1) = L.take m ++ [u] by rw [List.take_add_one, hu]; rfl)
      have hnm := RowAt.not_own hrow hk (by decide)
      obtain ⟨ao2, cap2, e2, hcap2, hcm2, hao2⟩ := row_open1 hk
      cases e2
      obtain ⟨kb, rfl, hkb1, hkb2, hcell⟩ := hao2 (by omega)
      have hc1 := hcell m (.int .u8 (u : Int)) (by unfold V.u8s; rw [List.getElem?_map, hu]; rfl)
      have hc2 := hrow.cell 2
      have hf2 := hrow.frozen 2
      simp only [List.getElem?_toArray, List.getElem?_cons_zero, List.getElem?_cons_succ] at hc2
      obtain ⟨W5, hW5⟩ : ∃ W5, wr.setCell ⟨W.heap.size + 1, 2, none⟩ (.int .u8 (u : Int)) = W5 := ⟨_, rfl⟩
      have hput : Put (W.heap.size + 1) wr W5 := by rw [← hW5]; exact put_setCell _ _ _ _
      have hrow5 : RowAt W5 (W.heap.size + 1) 36 #[.int .i8 (a : Int), .int .i8 (b : Int), .int .u8 (u : Int), .int .u8 0, .bool false] := by rw [← hW5]; exact hrow.setCell 2 _
      have n0' := hrow5.cell 0
      have n1 := hrow5.cell 1
      have n2 := hrow5.cell 2
      have n3 := hrow5.cell 3
      have n4 := hrow5.cell 4
      simp only [List.getElem?_toArray, List.getElem?_cons_zero, List.getElem?_cons_succ] at n0' n1 n2 n3 n4
      have HO2m := Lib.hid <| show O2 (W.heap.size + 1) by rw [HO2.out]; exact .inr ⟨by omega, by omega⟩
      have hj5 := HJ2.out O2 _ wr W5 (W.heap.size + 1) hj HO2m.out hput
      have hk5 := hput.owns hk hnm
      have hkk : wr.heap[kb]? ≠ none := fun e => by rw [Array.getElem?_eq_getElem hkb2] at e; cases e
      have hko5 : KO n0 O W W5 := ⟨hput.below hko.1 (by omega), fun q hq => (hput.block q (by have := hO q hq; omega)).trans (hko.2 q hq)⟩
      have hyy := HY.out O2 m u W5 hj5 hu
      obtain ⟨fn, tmps, assign, body, hy, hR⟩ := hyy
      change (Instr.yield l #[.agg #[.int .i8 (a : Int), .int .i8 (b : Int), .int .u8 (u : Int), .int .u8 0, .bool false]]).run _ _ = _ at hy
      have H5 := Lib.hid (And.intro hrow5 (And.intro hk5 (And.intro hko5 hput)))
      have HKB := Lib.hid (show W.heap.size ≤ kb by omega)
      have HLT := Lib.hid hlt
      clear hrow5 hk5 hko5 hput hj hrow hk hko hj5 hu hcell hao2 hkk hnm hkb1 hcap2 hcm2 hcap hcm hs1 hs2 hW2 hW1 hm hn0 hO hs3
      gi_wp2
      refine ⟨fun h => by simp [Fence.wide] at h, hR.mono ?_⟩
      rintro e W6 ⟨rfl, hJ6, hk6⟩
      have hOk : O2 kb := by
        obtain ⟨_, _, e3, _, _, h3⟩ := row_open1 H3.out.2.2.1
        cases e3
        obtain ⟨kb', e4, _, h4, _⟩ := h3 (by have := HLT.out; omega)
        cases e4
        rw [HO2.out]
        exact .inr ⟨by have := HKB.out; omega, h4⟩
      have HF := Lib.hid (show J O2 (pre ++ (L.take (m + 1)).map (Z.mv a b)) W6 ∧ RowAt W6 (W.heap.size + 1) 36 #[.int .i8 (a : Int), .int .i8 (b : Int), .int .u8 (u : Int), .int .u8 0, .bool false] ∧ W6.ownsRow W2.heap.size 5 1 (.slice (some ⟨kb, 0, none⟩) L.length cap) L.length (V.u8s L) ∧ KO n0 O W W6 ∧ w3.heap.size ≤ W6.heap.size from
        ⟨hJ6, ⟨(hk6.2 _ HO2m.out).trans H5.out.1.heap⟩, owns_same H5.out.2.1 (fun g hg => by cases hg; exact hk6.2 _ hOk), H5.out.2.2.1.trans ⟨hk6.1, fun q hq => hk6.2 q (by rw [HO2.out]; exact .inl hq)⟩, by have := hk6.1.size; have := H5.out.2.2.2.size; omega⟩)
      clear hJ6 hk6
      gi_wp2
      have HS := step_num m L.length HLT.out (Nat.le_trans HL6.out (by decide))
      have HN := HLT.out
      go_roundw
      case rel => exact ⟨m + 1, u, HN, HS.1, HF.out.1, HF.out.2.1, HF.out.2.2.1, HF.out.2.2.2.1, HF.out.2.2.2.2⟩
      case measure => exact HS.2
    · obtain rfl : m = L.length := by omega
      have HF := Lib.hid (show J O (pre ++ L.map (Z.mv a b)) wr ∧ KO n0 O W wr from ⟨by
        rw [List.take_length] at hj
        exact HJ1.out O2 O _ wr wr hj (Below.refl _ _) (fun q hq => .inl (by rw [HO2.out]; exact .inl hq)), hko⟩)
      clear hj hrow hk hko hsz hm hlt
      gi_wp2
      go_ret
      exact ⟨rfl, HF.out⟩
end Go.Proofs.YtlphjjekamhnlaaDoor
