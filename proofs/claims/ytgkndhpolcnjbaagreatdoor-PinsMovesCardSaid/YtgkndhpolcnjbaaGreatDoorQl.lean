/- Several texts in one: MovesI, May, Ref13a, Plain13. -/

import Derived.Test.YtgkndhpolcnjbaaGreatDoorQk
import Derived.Test.YtgkndhpolcnjbaaGreatDoorQh
namespace Go.Proofs.YtgkndhpolcnjbaaGreatDoor
open Go.RowKit Go.Sort
attribute [local go_sem] Oper.semAt_some
/-- The depth of a round says nothing where all is allowed. -/
theorem yield_lvl {m m' : Nat} {P : Program} {l : Nat} {args : Array Value} {W : World} {R : Ending → World → Prop} (h : YieldAt Fence.wide m P l args W R) : YieldAt Fence.wide m' P l args W R :=
  let ⟨fn, tmps, assign, body, e, hR⟩ := h
  ⟨fn, tmps, assign, body, e, hR.1, fun c cs _ => hR.2 c cs (room_wide _)⟩
theorem wpIn_load_rowI {P : Program} {n : Nat} {ops : Array Oper} {rest : List Oper} {o : Oper} {a : Act} {w : World} {Q : Exit → Act → World → Prop} (hgd : o.guard = none) (ty : TypeId) (x : Operand) (ho : o.op = .load ty x) {d : TypeDesc} (hu : P.underlying ty = some d) (hd : (match d with | .struct _ | .array _ _ => true | _ => false) = true)
    (h : ∃ (g : Nat) (T : TypeId) (cs : Array Value), a.eval x = .pointer (some ⟨g, 0, none⟩) ∧ RowAt w g T cs ∧ (P.info? ty).map (·.size) = some cs.size ∧ wpListIn Fence.wide n P ops Q rest (a.put o.dst (.agg cs)) w) : wpListIn Fence.wide n P ops Q (o :: rest) a w := by
  obtain ⟨g, T, cs, hx, hp, hi, h⟩ := h
  refine wpListIn_plain hgd fun K hK => ?_
  refine ⟨fun _ _ => trivial, ?_⟩
  have e : Oper.semAt Fence.wide.round a.eval o = execOp a.eval o := rfl
  rw [e]
  unfold execOp
  simp only [ho, hx, Instr.loadAt, Instr.sureAddr, Sem.run_bind, Sem.run_pure, Result.andThen_ok, run_loadVar_row w g T ty cs (0, 0) d hp.heap hu hd hi]
  exact hK _ _ h
theorem take_snocM {α : Type} (L : List α) (n : Nat) (u : α) (h : L[n]? = some u) : L.take (n + 1) = L.take n ++ [u] := by
  rw [List.take_add_one, h]
  rfl
/-- A move that is handed on, once for each kind. -/
theorem each_in (n l : Nat) (n0 : Nat) (c : Nat → Int) (o h : BitVec 64) (t a b : Nat) (hc : PosOk c) (ha : a < 64) (hb : b < 64) (ht : c 78 = (t : Int)) (J : (Nat → Prop) → List Mv → World → Prop) (O : Nat → Prop) (pre : List Mv) (W : World)
    (hJ1 : Owns1 J) (hJ2 : Owns2 J) (hJ : J O pre W) (hn0 : n0 ≤ W.heap.size) (hO : ∀ q, O q → q < W.heap.size) (hlen : pre.length + 6 ≤ 30000)
    (hY : ∀ O' q x W1, J O' q W1 → q.length ≤ 30000 → YieldAt Fence.wide (n - 1) Tryz.prog l (Z.enc x) W1 fun e W' => e = .returned (.bool true) ∧ J O' (q ++ [x]) W' ∧ KO n0 O' W1 W') :
    CallsIn Fence.wide n Tryz.prog 141 #[.agg (Z.sd c o h), .agg (M.cell (Z.mv a b 0)).toArray, .func (.yield l) #[] #[]] W fun e W' => e = .returned (.bool true) ∧ J O (pre ++ Z.eachL c t a b) W' ∧ KO n0 O W W' := by
  by_cases hk : P.kind (c (1 + a)) = 1 ∧ Z.rank t b = 7
  · rw [show Z.eachL c t a b = (V.promos (c 0).toNat).map (Z.mv a b) by unfold Z.eachL; rw [if_pos hk]]
    have hl6 : (V.promos (c 0).toNat).length ≤ 6 := by
      have := V.last_bd (c 0).toNat
      unfold V.promos
      simp
      omega
    refine each_many n l n0 c o h t a b hc ha hb ht J O pre W hJ1 hJ2 hJ hn0 hO hk.1 hk.2 ?_
    intro O' i x W1 hj hx
    have := hY O' _ (Z.mv a b x) W1 hj (by simp; omega)
    rwa [List.append_assoc, show [Z.mv a b x] = [x].map (Z.mv a b) from rfl, ← List.map_append, ← take_snocM _ i x hx] at this
  · rw [Z.one_of c t a b hk]
    exact each_one n l n0 c o h t a b hc ha hb ht J O pre W hJ1 hJ hn0 hO hk (fun O' W1 hj => hY O' pre _ W1 hj (by omega))
namespace Z
def toL (c : Nat → Int) (t a : Nat) (l : List Nat) : List Mv := l.flatMap fun b => eachL c t a b
def allR (c : Nat → Int) (o h : BitVec 64) (t : Nat) (l : List Nat) : List Mv := l.flatMap fun a => toL c t a (B.list (dest c o h a))
theorem eachL_len (c : Nat → Int) (t a b : Nat) : (eachL c t a b).length ≤ 5 := by
  unfold eachL
  split
  · have := V.last_bd (c 0).toNat
    unfold V.promos
    simp
    omega
  · simp
theorem toL_len (c : Nat → Int) (t a : Nat) : ∀ l : List Nat, (toL c t a l).length ≤ 5 * l.length
  | [] => by simp [toL]
  | b :: l => by
    have := toL_len c t a l
    have h5 := eachL_len c t a b
    unfold toL at *
    rw [List.flatMap_cons, List.length_append, List.length_cons]
    omega
theorem allR_len (c : Nat → Int) (o h : BitVec 64) (t : Nat) : ∀ l : List Nat, (allR c o h t l).length ≤ 320 * l.length
  | [] => by simp [allR]
  | a :: l => by
    have := allR_len c o h t l
    have h5 := toL_len c t a (B.list (dest c o h a))
    have := B.list_len (dest c o h a)
    unfold allR at *
    rw [List.flatMap_cons, List.length_append, List.length_cons]
    omega
theorem toL_snoc (c : Nat → Int) (t a : Nat) (l : List Nat) (b : Nat) : toL c t a (l ++ [b]) = toL c t a l ++ eachL c t a b := by unfold toL; rw [List.flatMap_append]; simp
theorem allR_snoc (c : Nat → Int) (o h : BitVec 64) (t : Nat) (l : List Nat) (a : Nat) : allR c o h t (l ++ [a]) = allR c o h t l ++ toL c t a (B.list (dest c o h a)) := by unfold allR; rw [List.flatMap_append]; simp
end Z
theorem Blist_lt (b : BitVec 64) (i a : Nat) (h : (B.list b)[i]? = some a) : a < 64 := by
  have := List.mem_of_getElem? h
  unfold B.list at this
  exact List.mem_range.1 ((List.mem_filter.1 this).1)
theorem ints_at (L : List Nat) (n u : Nat) (h : L[n]? = some u) : (B.ints L)[n]? = some (.int .i64 (u : Int)) := by
  unfold B.ints
  rw [List.getElem?_map, h]
  rfl
theorem KO.sub {n0 : Nat} {O O' : Nat → Prop} {W W' : World} (h : KO n0 O W W') (hs : ∀ q, O' q → O q) : KO n0 O' W W' := ⟨h.1, fun q hq => h.2 q (hs q hq)⟩
theorem KO.of_below {n0 : Nat} {O : Nat → Prop} {W W' : World} (h : Below W.heap.size W W') (hn : n0 ≤ W.heap.size) (hO : ∀ q, O q → q < W.heap.size) : KO n0 O W W' := ⟨h.mono hn, fun q hq => h.block q (hO q hq)⟩
theorem i8_sqI (k : Nat) (h : k < 64) : IntKind.i8.wrap (k : Int) = (k : Int) := by unfold IntKind.wrap; simp [IntKind.bits, IntKind.signed]; omega
set_option maxRecDepth 100000 in
set_option maxHeartbeats 8000000 in
theorem moves1_tells (n l n0 Bx : Nat) (c : Nat → Int) (o h : BitVec 64) (t : Nat) (hc : PosOk c) (ht : c 78 = (t : Int)) (ht1 : t ≤ 1) (J : (Nat → Prop) → List Mv → World → Prop) (O0 : Nat → Prop) (W : World)
    (hJ1 : Owns1 J) (hJ2 : Owns2 J) (h0 : J O0 [] W) (hn0 : n0 ≤ W.heap.size) (hO0 : ∀ q, O0 q → q < W.heap.size) (hBx : O0 Bx) (hB : RowAt W Bx 94 (Z.sd c o h)) (hT : ∀ W', Below n0 W W' → Tb W')
    (hY : ∀ O' q x W1, J O' q W1 → q.length ≤ 30000 → YieldAt Fence.wide (n - 1) Tryz.prog l (Z.enc x) W1 fun e W' => e = .returned (.bool true) ∧ J O' (q ++ [x]) W' ∧ KO n0 O' W1 W') :
    CallsIn Fence.wide n Tryz.prog 139 #[.func (.yield l) #[] #[], .pointer (some ⟨Bx, 0, none⟩)] W fun e W' => (∃ v, e = .returned v) ∧ ∃ O xs, xs = Z.allR c o h t (B.list o) ∧ J O xs W' := by
  have hown := (hB.cell 88).trans (Z.sd_own c o h)
  have hL64 := B.list_len o
  have hLm := Blist_lt o
  have HBL : Hid (∀ w, Tb w → Calls Tryz.prog 111 #[.int .u64 (U o)] w fun e w' => ∃ v, e = .returned v ∧ w'.ownsRow w.heap.size 3 1 v (B.list o).length (B.ints (B.list o)) ∧ Below w.heap.size w w') := Lib.hid (fun w hw => blist_any o w hw)
  obtain ⟨LA, hLA⟩ : ∃ LA, B.list o = LA := ⟨_, rfl⟩
  rw [hLA] at hL64 hLm HBL ⊢
  have HJ1 := Lib.hid hJ1
  have HJ2 := Lib.hid hJ2
  have H0 := Lib.hid h0
  have HT := Lib.hid hT
  have HY := Lib.hid hY
  have HB := Lib.hid hB
  have HO0 := Lib.hid hO0
  have HX := Lib.hid (And.intro hBx hn0)
  have HC := Lib.hid (And.intro hc ht)
  have HLm := Lib.hid hLm
  clear hJ1 hJ2 h0 hT hY hB hO0 hc ht hLA hBx hn0 hLm
  refine callsIn_of_wp Tryz.func139 rfl trivial ?_ rfl
  simp only [Tryz.ntmps139, List.size_toArray, List.length_cons, List.length_nil, Nat.reduceAdd, Nat.reduceSub, Array.replicate_succ, Array.replicate_zero, List.push_toArray, List.append_toArray, List.nil_append, List.cons_append]
  gi_wp2_with (first
    | (refine ⟨trivial, fun h => by simp [Fence.wide] at h, ?_⟩; gi_at_call 111; refine (callsIn_wide.2 (HBL.out _ (HT.out _ (Below.refl _ _)))).mono ?_; rintro e w1 ⟨x1, rfl, hown1, hb1⟩; obtain ⟨ao, cap, rfl, hcap, hcm, hao⟩ := row_open1 hown1)
    | (gi_at_call 111; refine (callsIn_wide.2 (HBL.out _ (HT.out _ (Below.refl _ _)))).mono ?_; rintro e w1 ⟨x1, rfl, hown1, hb1⟩; obtain ⟨ao, cap, rfl, hcap, hcm, hao⟩ := row_open1 hown1))
  have hs1 := hb1.size
  obtain ⟨O1, hO1⟩ : ∃ O1 : Nat → Prop, O1 = fun q => O0 q ∨ (W.heap.size ≤ q ∧ q < w1.heap.size) := ⟨_, rfl⟩
  have hj1 : J O1 [] w1 := HJ1.out O0 O1 [] W w1 H0.out hb1 (fun q hq => by rw [hO1] at hq; exact hq)
  have hO1l : ∀ q, O1 q → q < w1.heap.size := fun q hq => by
    rw [hO1] at hq
    rcases hq with hq | hq
    · have := HO0.out q hq; omega
    · exact hq.2
  have hO1x : O1 Bx := by rw [hO1]; exact .inl HX.out.1
  have hO1b : ∀ g, (Value.slice ao LA.length cap).ownBlock = some g → O1 g := fun g hg => by
    rcases hown1.2 with ⟨e, _⟩ | ⟨g', cap', cur, e, hb', hh, _⟩
    · rw [e] at hg; cases hg
    · rw [e] at hg
      cases hg
      rw [hO1]
      exact .inr ⟨hb', (Array.getElem?_eq_some_iff.1 hh).1⟩
  have H1 := Lib.hid (And.intro hj1 (And.intro (HB.out.below hb1) hown1))
  have HO1 := Lib.hid (And.intro hO1l (And.intro hO1x hO1b))
  have HBW := Lib.hid (hb1.mono HX.out.2)
  clear hj1 hown1 hb1 hO1l hO1x hO1b hO1 hao hown
  gi_loopw [12] (fun i wr => ∃ k : Nat, k ≤ LA.length ∧ i = .int .i64 (k : Int) ∧ J O1 (Z.allR c o h t (LA.take k)) wr ∧ KO n0 O1 w1 wr) (fun i _ => LA.length - (intOf i).toNat)
  case atStart => exact ⟨0, Nat.zero_le _, rfl, by rw [List.take_zero]; exact H1.out.1, KO.refl _ _ _⟩
  case round =>
    obtain ⟨k, hk, rfl, hj, hko⟩ := hrel
    by_cases hlt : k < LA.length
    · obtain ⟨a, ha⟩ : ∃ a, LA[k]? = some a := ⟨LA[k], List.getElem?_eq_getElem hlt⟩
      have ha64 := HLm.out k a ha
      have hown2 : wr.ownsRow W.heap.size 3 1 (.slice ao LA.length cap) LA.length (B.ints LA) := owns_same H1.out.2.2 (fun g hg => hko.2 g (HO1.out.2.2 g hg))
      obtain ⟨ao2, cap2, e2, hcap2, hcm2, hao2⟩ := row_open1 hown2
      cases e2
      obtain ⟨kb, rfl, hkb1, hkb2, hcell⟩ := hao2 (by omega)
      have hc1 := hcell k _ (ints_at LA k a ha)
      have hBr : RowAt wr Bx 94 (Z.sd c o h) := ⟨(hko.2 Bx HO1.out.2.1).trans H1.out.2.1.heap⟩
      have hTr : Tb wr := HT.out wr (HBW.out.trans hko.1)
      have HTo := Lib.hid (zto_any c o h a wr HC.out.1 hTr ha64 (by rw [HC.out.2]; omega))
      have hLB64 := B.list_len (Z.dest c o h a)
      have HBm := Lib.hid (Blist_lt (Z.dest c o h a))
      have HBL2 : Hid (∀ w, Tb w → Calls Tryz.prog 111 #[.int .u64 (U (Z.dest c o h a))] w fun e w' => ∃ v, e = .returned v ∧ w'.ownsRow w.heap.size 3 1 v (B.list (Z.dest c o h a)).length (B.ints (B.list (Z.dest c o h a))) ∧ Below w.heap.size w w') := Lib.hid (fun w hw => blist_any _ w hw)
      have hsn := Z.allR_snoc c o h t (LA.take k) a
      rw [← take_snocM LA k a ha] at hsn
      have hpl : (Z.allR c o h t (LA.take k)).length ≤ 20480 := by
        have := Z.allR_len c o h t (LA.take k)
        rw [List.length_take] at this
        omega
      obtain ⟨PA, hPA⟩ : ∃ PA, Z.allR c o h t (LA.take k) = PA := ⟨_, rfl⟩
      rw [hPA] at hj hsn hpl
      obtain ⟨LB, hLB⟩ : ∃ LB, B.list (Z.dest c o h a) = LB := ⟨_, rfl⟩
      rw [hLB] at HBL2 hLB64 HBm hsn
      have HSN := Lib.hid hsn
      have HJr := Lib.hid (And.intro hj (And.intro hko hBr))
      have HTr := Lib.hid hTr
      have HH := Lib.hid (And.intro hk hlt)
      clear hj hko hBr hTr hsn hPA hLB hown2 hao2 hcell ha hk
      gi_wp2_with (first
        | ((with_reducible refine wpIn_load_rowI rfl 94 _ rfl Tryz.underlying94 rfl ?_); refine ⟨Bx, 94, Z.sd c o h, rfl, HJr.out.2.2, Z.info _ _ _, ?_⟩)
        | (refine ⟨trivial, fun h => by simp [Fence.wide] at h, ?_⟩; gi_at_call 140; refine (callsIn_wide.2 HTo.out).mono ?_; rintro e w2 ⟨rfl, hb2⟩)
        | (gi_at_call 140; refine (callsIn_wide.2 HTo.out).mono ?_; rintro e w2 ⟨rfl, hb2⟩)
        | (refine ⟨trivial, fun h => by simp [Fence.wide] at h, ?_⟩; gi_at_call 111; refine (callsIn_wide.2 (HBL2.out _ (tb_below HTr.out hb2))).mono ?_; rintro e w3 ⟨x3, rfl, hown3, hb3⟩; obtain ⟨bo, bcap, rfl, hbcap, hbcm, hbo⟩ := row_open1 hown3)
        | (gi_at_call 111; refine (callsIn_wide.2 (HBL2.out _ (tb_below HTr.out hb2))).mono ?_; rintro e w3 ⟨x3, rfl, hown3, hb3⟩; obtain ⟨bo, bcap, rfl, hbcap, hbcm, hbo⟩ := row_open1 hown3))
      have hs2 := hb2.size
      have hs3 := hb3.size
      have hb3' := below_next hb2 hb3
      obtain ⟨O2, hO2⟩ : ∃ O2 : Nat → Prop, O2 = fun q => O1 q ∨ (wr.heap.size ≤ q ∧ q < w3.heap.size) := ⟨_, rfl⟩
      have hj3 : J O2 PA w3 := HJ1.out O1 O2 PA wr w3 HJr.out.1 hb3' (fun q hq => by rw [hO2] at hq; exact hq)
      have hw1r := HJr.out.2.1.1.size
      have hO2l : ∀ q, O2 q → q < w3.heap.size := fun q hq => by
        rw [hO2] at hq
        rcases hq with hq | hq
        · have := HO1.out.1 q hq; omega
        · exact hq.2
      have hO2s : ∀ q, O1 q → O2 q := fun q hq => by rw [hO2]; exact .inl hq
      have hO2b : ∀ g, (Value.slice bo LB.length bcap).ownBlock = some g → O2 g := fun g hg => by
        rcases hown3.2 with ⟨e, _⟩ | ⟨g', cap', cur, e, hb', hh, _⟩
        · rw [e] at hg; cases hg
        · rw [e] at hg
          cases hg
          rw [hO2]
          exact .inr ⟨Nat.le_trans hs2 hb', (Array.getElem?_eq_some_iff.1 hh).1⟩
      have hko3 : KO n0 O1 w1 w3 := HJr.out.2.1.trans (KO.of_below hb3' (by have := HX.out.2; omega) (fun q hq => by have := HO1.out.1 q hq; omega))
      have H3 := Lib.hid (And.intro hj3 (And.intro hown3 (And.intro hko3 (HJr.out.2.2.below hb3'))))
      have HO2 := Lib.hid (And.intro hO2l (And.intro hO2s hO2b))
      have HSZ := Lib.hid (show n0 ≤ w3.heap.size by have := HX.out.2; omega)
      clear hj3 hown3 hb2 hb3 hb3' hO2l hO2s hO2b hO2 hbo hko3 hw1r
      try rw [show decide ((k : Int) < (LA.length : Int)) = true by simp; omega]
      obtain ⟨v0, hv0⟩ : ∃ v0, v0 = wr := ⟨_, rfl⟩
      subst hv0
      gi_loopw [21] (fun i wr => ∃ j : Nat, j ≤ LB.length ∧ i = .int .i64 (j : Int) ∧ J O2 (PA ++ Z.toL c t a (LB.take j)) wr ∧ KO n0 O2 w3 wr) (fun i _ => LB.length - (intOf i).toNat)
      case atStart => exact ⟨0, Nat.zero_le _, rfl, by rw [List.take_zero, show Z.toL c t a [] = [] from rfl, List.append_nil]; exact H3.out.1, KO.refl _ _ _⟩
      case round =>
        obtain ⟨j, hj, rfl, hJs, hks⟩ := hrel
        by_cases hlj : j < LB.length
        · obtain ⟨b, hbb⟩ : ∃ b, LB[j]? = some b := ⟨LB[j], List.getElem?_eq_getElem hlj⟩
          have hb64 := HBm.out j b hbb
          have hown4 : wr.ownsRow w2.heap.size 3 1 (.slice bo LB.length bcap) LB.length (B.ints LB) := owns_same H3.out.2.1 (fun g hg => hks.2 g (HO2.out.2.2 g hg))
          obtain ⟨bo2, bcap2, e2, _, _, hbo2⟩ := row_open1 hown4
          cases e2
          obtain ⟨lb, rfl, _, hlb2, hcell2⟩ := hbo2 (by omega)
          have hc2 := hcell2 j _ (ints_at LB j b hbb)
          have hBs : RowAt wr Bx 94 (Z.sd c o h) := ⟨(hks.2 Bx (HO2.out.2.1 Bx HO1.out.2.1)).trans H3.out.2.2.2.heap⟩
          have hsn2 := Z.toL_snoc c t a (LB.take j) b
          rw [← take_snocM LB j b hbb] at hsn2
          have hpl2 : (PA ++ Z.toL c t a (LB.take j)).length + 6 ≤ 30000 := by
            have := Z.toL_len c t a (LB.take j)
            rw [List.length_take] at this
            rw [List.length_append]
            omega
          have hss := hks.1.size
          obtain ⟨W4, hW4, hm4, hb4, hs4⟩ : ∃ W4, wr.alloc (.cells #[.int .i8 (a : Int), .int .i8 (b : Int), .int .u8 0, .int .u8 0, .bool false] 40) = W4 ∧ RowAt W4 wr.heap.size 40 #[.int .i8 (a : Int), .int .i8 (b : Int), .int .u8 0, .int .u8 0, .bool false] ∧ Below wr.heap.size wr W4 ∧ W4.heap.size = wr.heap.size + 1 :=
            ⟨_, rfl, RowAt.new _ _ _, (Below.refl _ _).alloc (Nat.le_refl _) _, by simp⟩
          have hJ4 : J O2 (PA ++ Z.toL c t a (LB.take j)) W4 := HJ1.out O2 O2 _ wr W4 hJs hb4 (fun q hq => .inl hq)
          have HE := Lib.hid (each_in 5 l n0 c o h t a b HC.out.1 ha64 hb64 HC.out.2 J O2 (PA ++ Z.toL c t a (LB.take j)) W4 HJ1.out HJ2.out hJ4 (by have := HSZ.out; omega) (fun q hq => by have := HO2.out.1 q hq; omega) hpl2 (fun O' q x W1 h1 h2 => yield_lvl (HY.out O' q x W1 h1 h2)))
          have HK4 := Lib.hid (show KO n0 O2 w3 W4 from hks.trans (KO.of_below hb4 (by have := HSZ.out; omega) (fun q hq => by have := HO2.out.1 q hq; omega)))
          have HW4 := Lib.hid hW4
          have m0 := hm4.cell 0
          have m1 := hm4.cell 1
          have m2 := hm4.cell 2
          have m3 := hm4.cell 3
          have m4 := hm4.cell 4
          simp only [List.getElem?_toArray, List.getElem?_cons_zero, List.getElem?_cons_succ] at m0 m1 m2 m3 m4
          rw [← hW4] at m0 m1 m2 m3 m4
          have HB4 := Lib.hid (hBs.below hb4)
          have HSN2 := Lib.hid hsn2
          have HLJ := Lib.hid hlj
          have w8a := i8_sqI a ha64
          have w8b := i8_sqI b hb64
          clear hJs hks hown4 hbo2 hcell2 hbb hsn2 hpl2 hss hW4 hm4 hb4 hs4 hJ4 hj hBs
          gi_wp2_with (first
            | ((with_reducible refine wpIn_load_rowI rfl 94 _ rfl Tryz.underlying94 rfl ?_); refine ⟨Bx, 94, Z.sd c o h, rfl, (by rw [HW4.out]; exact HB4.out), Z.info _ _ _, ?_⟩)
            | (refine ⟨trivial, fun h => by simp [Fence.wide] at h, ?_⟩; gi_at_call 141; rw [HW4.out]; refine (callsIn_wide.2 (callsIn_wide.1 HE.out)).mono ?_; rintro e w5 ⟨rfl, hJ5, hk5⟩))
          have HS := step_num' j LB.length HLJ.out
          exact ⟨⟨j + 1, HLJ.out, HS.1, by rw [HSN2.out, ← List.append_assoc]; exact hJ5, HK4.out.trans hk5⟩, HS.2⟩
        · obtain rfl : j = LB.length := by omega
          rw [List.take_length] at hJs
          have HF := Lib.hid (show J O1 (Z.allR c o h t (LA.take (k + 1))) wr ∧ KO n0 O1 w1 wr from ⟨by rw [HSN.out]; exact HJ1.out O2 O1 _ wr wr hJs (Below.refl _ _) (fun q hq => .inl (HO2.out.2.1 q hq)), H3.out.2.2.1.trans (hks.sub HO2.out.2.1)⟩)
          clear hJs hks hj hlj
          gi_wp2
          have HS := step_num' k LA.length HH.out.2
          have HN := HH.out.2
          go_roundw
          case rel => exact ⟨k + 1, HN, HS.1, HF.out.1, HF.out.2⟩
          case measure => exact HS.2
    · obtain rfl : k = LA.length := by omega
      have HF := Lib.hid (show J O1 (Z.allR c o h t LA) wr by rw [List.take_length] at hj; exact hj)
      clear hj hko hk hlt
      gi_wp2
      go_end0
      exact ⟨⟨_, rfl⟩, O1, _, rfl, HF.out⟩
end Go.Proofs.YtgkndhpolcnjbaaGreatDoor
namespace Go.Proofs.YtgkndhpolcnjbaaGreatDoor
open Go.RowKit
namespace D
def empty (c : Nat → Int) (s : Nat) : Bool := P.kind (c (1 + s)) == 0
def own (c : Nat → Int) (s : Nat) (t : Int) : Bool := !empty c s && (color (c (1 + s)) == t)
def up1 (t : Nat) : Int := if t = 0 then 8 else -8
/-- May the pawn on a go to b? -/
def pawn (c : Nat → Int) (t a b : Nat) : Bool :=
  if hits c a b = true then own c b (1 - (t : Int)) || (c 83 == (b : Int))
  else if (b : Int) = (a : Int) + up1 t then empty c b
  else decide ((b : Int) = (a : Int) + 2 * up1 t) && ((decide (Z.rank t a = 1) || (decide (Z.rank t a = 0) && (decide (c 0 = 7) && decide (t = 0)))) && (empty c ((a : Int) + up1 t).toNat && empty c b))
/-- May the piece on a go to b? -/
def may (c : Nat → Int) (t a b : Nat) : Bool :=
  decide (a ≠ b) && (own c a (t : Int) && (!own c b (t : Int) &&
    (if P.kind (c (1 + a)) = 1 then pawn c t a b
     else if P.kind (c (1 + a)) = 6 then hits c a b && (decide (c 0 ≠ 3) || empty c b)
     else hits c a b)))
end D
theorem bit_one' (s : Int) (n : Nat) (hn : n < 64) : bit (B.one s) n = (s == (n : Int)) := by
  by_cases h : 0 ≤ s ∧ s < 64
  · obtain ⟨m, rfl⟩ : ∃ m : Nat, s = (m : Int) := ⟨s.toNat, by omega⟩
    rw [bit_one m n (by omega), Bool.eq_iff_iff]
    simp
    omega
  · unfold B.one
    rw [if_neg h, bit_zero]
    symm
    simp
    omega
theorem bit_ofK (c : Nat → Int) (t : Int) (hc : BdOk c) (j : Nat) (hj : j < 64) : bit (S.of c t 0) j = D.own c j t := by
  obtain ⟨x0, x1⟩ := hc j hj
  rw [bit_of c t 0 j hj]
  unfold S.ofG D.own D.empty
  have := isB_kind _ x0 x1
  cases hb : P.isB (c (1 + j))
  · rw [isB_false _ hb]; simp
  · rw [hb] at this
    rw [color_eq _ hb]
    simp at this ⊢
    simp [this]
theorem or_all (c : Nat → Int) (t : Int) (ht : t = 0 ∨ t = 1) (hc : BdOk c) : bOr (S.of c t 0) (S.of c (1 - t) 0) = S.all c := bit_ext fun j hj => by
  obtain ⟨x0, x1⟩ := hc j hj
  rw [bit_or, bit_ofK c t hc j hj, bit_ofK c (1 - t) hc j hj, bit_all c j hj]
  unfold D.own D.empty
  have hk := isB_kind _ x0 x1
  cases hb : P.isB (c (1 + j))
  · rw [isB_false _ hb]; simp
  · obtain ⟨_, _, h3⟩ := isB_true _ x0 x1 hb
    rw [color_eq _ hb] at h3
    rw [hb] at hk
    simp at hk ⊢
    rcases ht with rfl | rfl <;> rcases h3 with h3 | h3 <;> simp [h3, hk]
theorem empty_all (c : Nat → Int) (hc : BdOk c) (j : Nat) (hj : j < 64) : D.empty c j = !bit (S.all c) j := by
  obtain ⟨x0, x1⟩ := hc j hj
  rw [bit_all c j hj, ← isB_kind _ x0 x1]
  unfold D.empty
  cases h : (P.kind (c (1 + j)) == 0) <;> simp_all
theorem one_iff (t a b : Nat) (ht : t ≤ 1) (ha : a < 64) (hr : Z.rank t a ≠ 7) : (b = Z.one t a) ↔ (b : Int) = (a : Int) + D.up1 t := by
  obtain ⟨h1, h2⟩ := Z.ahead_one t a ha hr
  unfold Z.ahead at h1
  unfold D.up1
  split at h1 <;> split <;> omega
theorem two_iff (t a b : Nat) (ht : t ≤ 1) (ha : a < 64) (hr : Z.rank t a ≤ 1) : (b = Z.one t (Z.one t a)) ↔ (b : Int) = (a : Int) + 2 * D.up1 t := by
  obtain ⟨h1, h2⟩ := Z.ahead_one t a ha (by omega)
  obtain ⟨h3, h4⟩ := Z.ahead_two t a ha hr
  unfold Z.ahead at h1 h3
  unfold D.up1
  split at h1 <;> split at h3 <;> split <;> omega
/-- A pawn hits no square of its own file. -/
theorem pawn_aside (c : Nat → Int) (a b : Nat) (h1 : P.kind (c (1 + a)) = 1) (h : D.hits c a b = true) : (b : Int) % 8 ≠ (a : Int) % 8 := by
  intro e
  unfold D.hits at h
  have hz : D.aside a b = 0 := by unfold D.aside; rw [show (b : Int) % 8 - (a : Int) % 8 = 0 by omega]; rfl
  rw [if_pos h1, hz] at h
  split at h <;> simp at h
theorem dest_pawn (c : Nat → Int) (t a b : Nat) (hc : PosOk c) (ht : c 78 = (t : Int)) (ht1 : t ≤ 1) (ha : a < 64) (hb : b < 64) (h1 : P.kind (c (1 + a)) = 1) (ho : D.own c a (t : Int) = true) :
    bit (Z.pawn c (Z.own c) (Z.oth c) t a) b = D.pawn c t a b := by
  have hbd := pos_bd hc
  have hcol : D.color (c (1 + a)) = (t : Int) := by unfold D.own at ho; simp at ho; exact ho.2
  have hall : bOr (Z.own c) (Z.oth c) = S.all c := by unfold Z.own Z.oth; rw [ht]; exact or_all c (t : Int) (by omega) hbd
  have hhit : bit (R.pawn (c 78) (a : Int)) b = D.hits c a b := by
    rw [hits_K c a b hbd ha hb, h1, hcol, ht]
    exact bit_hits 1 (t : Int) (S.all c) a b (by omega) ha hb
  have hpo : bit (Z.pout c (Z.oth c) a) b = (D.hits c a b && (D.own c b (1 - (t : Int)) || (c 83 == (b : Int)))) := by
    unfold Z.pout Z.passing
    rw [bit_and, bit_or, hhit, bit_one' _ b hb]
    congr 2
    unfold Z.oth
    rw [ht]
    exact bit_ofK c _ hbd b hb
  unfold Z.pawn D.pawn
  rw [hall]
  by_cases hr : Z.rank t a = 7
  · rw [if_pos hr, hpo]
    cases hh : D.hits c a b
    · rw [if_neg (by simp), if_neg, hr]
      · simp
      · unfold Z.rank at hr
        unfold D.up1
        split at hr <;> split <;> omega
    · simp
  rw [if_neg hr]
  have hone := one_iff t a b ht1 ha hr
  obtain ⟨e1, e2⟩ := Z.ahead_one t a ha hr
  have e1' : ((a : Int) + D.up1 t).toNat = Z.one t a := by
    have := (one_iff t a (Z.one t a) ht1 ha hr).1 rfl
    omega
  rw [e1']
  have hfile : D.hits c a b = true → b ≠ Z.one t a ∧ ((b : Int) ≠ (a : Int) + 2 * D.up1 t) := fun h => by
    have := pawn_aside c a b h1 h
    rw [ne_eq, hone]
    unfold D.up1
    split <;> omega
  have hE1 := empty_all c hbd (Z.one t a) e2
  have hEb := empty_all c hbd b hb
  by_cases hbl : bit (S.all c) (Z.one t a) = true
  · rw [if_pos hbl, hpo]
    cases hh : D.hits c a b
    · rw [if_neg (by simp), hE1, hbl]
      split
      · rename_i h
        rw [hEb, hone.2 h, hbl]
        rfl
      · simp
    · simp
  rw [if_neg hbl]
  have hbl' : bit (S.all c) (Z.one t a) = false := by simpa using hbl
  have hfrom : Z.from2 c (Z.rank t a) = (decide (Z.rank t a = 1) || (decide (Z.rank t a = 0) && (decide (c 0 = 7) && decide (t = 0)))) := by
    unfold Z.from2
    rw [ht]
    congr 3
    simp
  by_cases hf : Z.from2 c (Z.rank t a) = true
  · rw [if_pos hf]
    rw [hfrom] at hf
    have hr1 : Z.rank t a ≤ 1 := by simp at hf; omega
    obtain ⟨e3, e4⟩ := Z.ahead_two t a ha hr1
    have htwo := two_iff t a b ht1 ha hr1
    rw [bit_or, bit_or, bit_andn, hpo, bit_one _ b e2, bit_one _ b e4, hf, hE1, hbl', hEb]
    cases hh : D.hits c a b
    · rw [if_neg (by simp)]
      by_cases hb1 : b = Z.one t a
      · rw [if_pos (hone.1 hb1), hb1, hbl']
        simp
      · rw [if_neg (fun h => hb1 (hone.2 h))]
        by_cases hb2 : b = Z.one t (Z.one t a)
        · have h12 : Z.one t (Z.one t a) ≠ Z.one t a := fun e => hb1 (hb2.trans e)
          have h13 := htwo.1 hb2
          rw [hb2] at h13 ⊢
          simp [h12, h13]
        · have : ¬ (b : Int) = (a : Int) + 2 * D.up1 t := fun h => hb2 (htwo.2 h)
          simp [hb1, hb2, this]
    · obtain ⟨n1, n2⟩ := hfile hh
      have n3 : b ≠ Z.one t (Z.one t a) := fun h => n2 (htwo.1 h)
      simp [n1, n3]
  · rw [if_neg hf]
    rw [hfrom] at hf
    have hf' : (decide (Z.rank t a = 1) || (decide (Z.rank t a = 0) && (decide (c 0 = 7) && decide (t = 0)))) = false := by simpa using hf
    rw [bit_or, hpo, bit_one _ b e2, hf', hE1, hbl', hEb]
    cases hh : D.hits c a b
    · rw [if_neg (by simp)]
      by_cases hb1 : b = Z.one t a
      · rw [if_pos (hone.1 hb1), hb1, hbl']
        simp
      · rw [if_neg (fun h => hb1 (hone.2 h))]
        simp [hb1]
    · obtain ⟨n1, n2⟩ := hfile hh
      simp [n1]
/-- Where a piece may go, by the sets and by the document. -/
theorem dest_may (c : Nat → Int) (t a b : Nat) (hc : PosOk c) (ht : c 78 = (t : Int)) (ht1 : t ≤ 1) (ha : a < 64) (hb : b < 64) (ho : D.own c a (t : Int) = true) :
    bit (Z.dest c (Z.own c) (Z.oth c) a) b = D.may c t a b := by
  have hbd := pos_bd hc
  have hcol : D.color (c (1 + a)) = (t : Int) := by unfold D.own at ho; simp at ho; exact ho.2
  have hall : bOr (Z.own c) (Z.oth c) = S.all c := by unfold Z.own Z.oth; rw [ht]; exact or_all c (t : Int) (by omega) hbd
  unfold Z.dest
  rw [bit_andn, show bit (Z.own c) b = D.own c b (t : Int) by unfold Z.own; rw [ht]; exact bit_ofK c _ hbd b hb]
  unfold D.may
  rw [ho, Bool.true_and]
  cases hob : D.own c b (t : Int)
  · have hab : a ≠ b := fun e => by rw [e, hob] at ho; cases ho
    simp only [hab, decide_true, Bool.not_false, Bool.and_true, Bool.true_and, ne_eq, not_false_eq_true]
    obtain ⟨k, hk⟩ : ∃ k : Nat, P.kind (c (1 + a)) = (k : Int) := by
      obtain ⟨x0, x1⟩ := hbd a ha
      cases hB : P.isB (c (1 + a))
      · exact ⟨0, isB_false _ hB⟩
      · exact ⟨(P.kind (c (1 + a))).toNat, by have := isB_true _ x0 x1 hB; omega⟩
    have hK : D.hits c a b = D.hitsK (k : Int) (t : Int) (S.all c) a b := by rw [hits_K c a b hbd ha hb, hk, hcol]
    have hB := bit_hits k (t : Int) (S.all c) a b (by omega) ha hb
    unfold Z.base
    rw [hall]
    by_cases h1 : k = 1
    · have hk1 : P.kind (c (1 + a)) = 1 := by rw [hk, h1]; rfl
      rw [if_pos hk1, if_pos hk1, ht, Int.toNat_natCast]
      exact dest_pawn c t a b hc ht ht1 ha hb hk1 ho
    rw [if_neg (show ¬ P.kind (c (1 + a)) = 1 by omega), if_neg (show ¬ P.kind (c (1 + a)) = 1 by omega)]
    by_cases h6 : k = 6
    · subst h6
      rw [if_neg (show ¬ P.kind (c (1 + a)) = 2 by omega), if_neg (show ¬ P.kind (c (1 + a)) = 3 by omega), if_neg (show ¬ P.kind (c (1 + a)) = 4 by omega), if_neg (show ¬ P.kind (c (1 + a)) = 5 by omega), if_pos (show P.kind (c (1 + a)) = 6 by omega), if_pos (show P.kind (c (1 + a)) = 6 by omega), hK, ← hB]
      have hEb := empty_all c hbd b hb
      by_cases h3 : c 0 = 3
      · rw [if_pos h3, bit_andn]
        show (bit (R.king a) b && _) = (bit (R.king a) b && _)
        congr 1
        simp only [h3, not_true_eq_false, decide_false, Bool.false_or, hEb]
        rw [← hall, bit_or, show bit (Z.own c) b = D.own c b (t : Int) by unfold Z.own; rw [ht]; exact bit_ofK c _ hbd b hb, hob, Bool.false_or]
      · rw [if_neg h3]
        simp only [h3, not_false_eq_true, decide_true, Bool.true_or, Bool.and_true]
        rfl
    rw [if_neg (show ¬ P.kind (c (1 + a)) = 6 by omega), if_neg (show ¬ P.kind (c (1 + a)) = 6 by omega), hK, ← hB]
    by_cases h2 : k = 2
    · subst h2; rw [if_pos (show P.kind (c (1 + a)) = 2 by omega)]; rfl
    rw [if_neg (show ¬ P.kind (c (1 + a)) = 2 by omega)]
    by_cases h3 : k = 3
    · subst h3; rw [if_pos (show P.kind (c (1 + a)) = 3 by omega)]; rfl
    rw [if_neg (show ¬ P.kind (c (1 + a)) = 3 by omega)]
    by_cases h4 : k = 4
    · subst h4; rw [if_pos (show P.kind (c (1 + a)) = 4 by omega)]; rfl
    rw [if_neg (show ¬ P.kind (c (1 + a)) = 4 by omega)]
    by_cases h5 : k = 5
    · subst h5; rw [if_pos (show P.kind (c (1 + a)) = 5 by omega)]; rfl
    rw [if_neg (show ¬ P.kind (c (1 + a)) = 5 by omega)]
    congr 1
    unfold K.hits
    split <;> first | omega | rfl
  · simp
namespace Z
/-- All moves, in order. -/
def all (c : Nat → Int) (t : Nat) : List Mv := (B.list (own c)).flatMap fun a => (B.list (dest c (own c) (oth c) a)).flatMap fun b => eachL c t a b
end Z
namespace D
def list13 (c : Nat → Int) (t : Nat) : List Mv := (List.range 64).flatMap fun a => (List.range 64).flatMap fun b => if may c t a b = true then Z.eachL c t a b else []
end D
theorem flatMap_filter {α β : Type} (p : α → Bool) (f : α → List β) : ∀ l : List α, (l.filter p).flatMap f = l.flatMap fun x => if p x = true then f x else []
  | [] => rfl
  | x :: l => by
    rw [List.flatMap_cons, ← flatMap_filter p f l]
    cases h : p x
    · rw [List.filter_cons_of_neg (by simp [h])]; simp
    · rw [List.filter_cons_of_pos h]; simp
theorem flatMap_same {α β : Type} {f g : α → List β} : ∀ {l : List α}, (∀ x, x ∈ l → f x = g x) → l.flatMap f = l.flatMap g
  | [], _ => rfl
  | x :: l, h => by rw [List.flatMap_cons, List.flatMap_cons, h x List.mem_cons_self, flatMap_same fun y hy => h y (List.mem_cons_of_mem _ hy)]
/-- THE PLAIN LAW: all moves, in the document's order. -/
theorem all_eq (c : Nat → Int) (t : Nat) (hc : PosOk c) (ht : c 78 = (t : Int)) (ht1 : t ≤ 1) : Z.all c t = D.list13 c t := by
  unfold Z.all D.list13 B.list
  rw [flatMap_filter]
  refine flatMap_same fun a ha => ?_
  have ha := List.mem_range.1 ha
  rw [show bit (Z.own c) a = D.own c a (t : Int) by unfold Z.own; rw [ht]; exact bit_ofK c _ (pos_bd hc) a ha]
  split
  · rename_i ho
    rw [flatMap_filter]
    refine flatMap_same fun b hb => ?_
    rw [dest_may c t a b hc ht ht1 ha (List.mem_range.1 hb) ho]
  · rename_i ho
    symm
    rw [List.flatMap_eq_nil_iff]
    intro b _
    rw [if_neg]
    unfold D.may
    simp [ho]
end Go.Proofs.YtgkndhpolcnjbaaGreatDoor
namespace Go.Proofs.YtgkndhpolcnjbaaGreatDoor
open Go.RowKit Go.Sort
end Go.Proofs.YtgkndhpolcnjbaaGreatDoor
namespace Go.Proofs.YtgkndhpolcnjbaaGreatDoor
open Go.RowKit
theorem mem_each (c : Nat → Int) (t a b : Nat) (m : Mv) : m ∈ Z.eachL c t a b ↔ ∃ k, m = Z.mv a b k ∧ (if P.kind (c (1 + a)) = 1 ∧ Z.rank t b = 7 then k ∈ V.promos (c 0).toNat else k = 0) := by
  unfold Z.eachL
  split
  · rw [List.mem_map]
    constructor
    · rintro ⟨k, h, rfl⟩; exact ⟨k, rfl, h⟩
    · rintro ⟨k, rfl, h⟩; exact ⟨k, h, rfl⟩
  · rw [List.mem_singleton]
    constructor
    · rintro rfl; exact ⟨0, rfl, rfl⟩
    · rintro ⟨k, rfl, rfl⟩; rfl
theorem mem_list13 (c : Nat → Int) (t : Nat) (m : Mv) : m ∈ D.list13 c t ↔ ∃ a b, a < 64 ∧ b < 64 ∧ D.may c t a b = true ∧ m ∈ Z.eachL c t a b := by
  unfold D.list13
  simp only [List.mem_flatMap, List.mem_range]
  constructor
  · rintro ⟨a, ha, b, hb, h⟩
    split at h
    · rename_i hm; exact ⟨a, b, ha, hb, hm, h⟩
    · cases h
  · rintro ⟨a, b, ha, hb, hm, h⟩
    exact ⟨a, ha, b, hb, by rw [if_pos hm]; exact h⟩
end Go.Proofs.YtgkndhpolcnjbaaGreatDoor
