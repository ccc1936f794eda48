/- Several texts in one: Ref13e, PListI. -/
import Derived.Maps.OwnIn
import Derived.RangeFuncBox
import Derived.Test.YtgkndhpolcnjbaaGreatDoorQn
import Derived.Test.YtgkndhpolcnjbaaGreatDoorQl
namespace Go.Proofs.YtgkndhpolcnjbaaGreatDoor
open Go.RowKit Go.Sort
theorem owns_low {w : World} {base b' : Nat} {e : TypeId} {size : Nat} {v : Value} {n : Nat} {xs : List Value} (h : w.ownsRow base e size v n xs) (hb : b' ≤ base) : w.ownsRow b' e size v n xs := by
  refine ⟨h.1, ?_⟩
  rcases h.2 with h2 | ⟨g, cap, cur, hv, hb', h3⟩
  · exact .inl h2
  · exact .inr ⟨g, cap, cur, hv, Nat.le_trans hb hb', h3⟩
theorem owns_lt {w : World} {base : Nat} {e : TypeId} {size : Nat} {v : Value} {n : Nat} {xs : List Value} (h : w.ownsRow base e size v n xs) : ∀ q, v.ownBlock = some q → q < w.heap.size := by
  rintro q hq
  rcases h.2 with ⟨rfl, rfl⟩ | ⟨g, cap, cur, rfl, hb, hg, _⟩
  · cases hq
  · cases hq
    exact (Array.getElem?_eq_some_iff.1 hg).1
theorem RowAt.newAt (w : World) (cs : Array Value) (T : TypeId) (g : Nat) (h : g = w.heap.size) : RowAt (w.alloc (.cells cs T)) g T cs := h ▸ RowAt.new w cs T
theorem take_snoc {α : Type} (L : List α) (n : Nat) (u : α) (h : L[n]? = some u) : L.take (n + 1) = L.take n ++ [u] := by
  rw [List.take_add_one, h]
  rfl
theorem Z.many (c : Nat → Int) (t a b : Nat) (h : P.kind (c (1 + a)) = 1 ∧ Z.rank t b = 7) : Z.eachL c t a b = (V.promos (c 0).toNat).map (Z.mv a b) := by unfold Z.eachL; rw [if_pos h]
end Go.Proofs.YtgkndhpolcnjbaaGreatDoor
namespace Go.Proofs.YtgkndhpolcnjbaaGreatDoor
open Go.RowKit Go.Sort
attribute [local go_sem] Oper.semAt_some
set_option maxRecDepth 100000 in
theorem smoves_any (c : Nat → Int) (o h : BitVec 64) (w : World) : Calls Tryz.prog 79 #[.agg (Z.sd c o h)] w fun e w' => e = .returned (.func (.func 139) #[] #[.pointer (some ⟨w.heap.size, 0, none⟩)]) ∧ w.alloc (.cells (Z.sd c o h) 94) = w' := by
  go_enter Tryz.func79, Tryz.ntmps79
  go_wp2
  go_ret
  exact ⟨rfl, rfl⟩
/-- What List's variables hold between two rounds: the row so far in the box at Bo; the blocks O are the iterator's. -/
def Z.Row (w : World) (Bo : Nat) (O : Nat → Prop) (pre : List Mv) (W : World) : Prop :=
  ∃ v, Boxed W Bo 33 v ∧ W.ownsRow Bo 40 5 v pre.length (M.cells pre) ∧ (∀ q, v.ownBlock = some q → ¬ O q) ∧ (∀ q, O q → Bo ≤ q ∧ q < W.heap.size) ∧ ¬ O Bo ∧ Below w.heap.size w W
theorem Z.Row.grow (w : World) (Bo : Nat) : Owns1 (Z.Row w Bo) := by
  rintro O O' s W W' ⟨v, hv, hr, hq, hO, hB, hb⟩ hb' ho
  have hlt := hv.lt
  refine ⟨v, (hb'.block _ hv.lt).trans hv, owns_below hr hb', fun q e hq' => ?_, fun q hq' => ?_, fun h => ?_, below_next hb hb'⟩
  · rcases ho q hq' with h | h
    · exact hq q e h
    · have := owns_lt hr q e
      omega
  · rcases ho q hq' with h | h
    · have := hO q h
      have := hb'.size
      omega
    · exact ⟨by omega, h.2⟩
  · rcases ho _ h with h | h
    · exact hB h
    · omega
theorem Z.Row.put (w : World) (Bo : Nat) (hw : w.heap.size ≤ Bo) : Owns2 (Z.Row w Bo) := by
  rintro O s W W' b ⟨v, hv, hr, hq, hO, hB, hb⟩ hob hP
  exact ⟨v, (hP.block _ (fun e => hB (by rw [e]; exact hob))).trans hv, hP.owns hr (fun e => hq b e hob), hq, fun q h => by rw [hP.size]; exact hO q h, hB, hP.below hb (by have := hO b hob; omega)⟩
theorem Z.Row.puts (w w0 : World) (Bo : Nat) (hw : w.heap.size ≤ w0.heap.size) (O : Nat → Prop) (s : List Mv) : Puts w0.heap.size (Z.Row w Bo O s) := by
  rintro W l o o' ⟨v, hv, hr, hq, hO, hB, hb⟩ hl ho hn
  have ne : ∀ {B : Nat} {t : TypeId} {x : Value}, Boxed W B t x → some B ≠ some l := fun hx e => by cases e; rw [show W.heap[_]? = _ from hx] at ho; cases ho; cases hn
  exact ⟨v, hv.kept (grownBy_putObj' W l o') (ne hv), ownsRow_putObj hr o' ho hn, hq, fun q h => by simpa using hO q h, hB, hb.grown (grownBy_putObj' W l o') hb.size (fun k e => by cases e; omega)⟩
/-- List's slots while the body runs. -/
def Z.slots (c : Nat → Int) (o h : BitVec 64) (w w1 : World) (Bo Bm : Nat) (x : Mv) : Act :=
  { tmps := #[.agg (posC c), .pointer (some ⟨w.heap.size, 0, none⟩), .slice none 0 0, .pointer (some ⟨w1.heap.size, 0, none⟩), .bool true, .pointer (some ⟨Bo, 0, none⟩), .pointer (some ⟨Bm, 0, none⟩), .tuple #[.agg (Z.sd c o h), .bool true], .agg (posC c), .tuple #[.agg (Z.sd c o h), .bool true], .agg (Z.sd c o h), .bool true, .bool true, .bool false, .agg (Z.sd c o h), .func (.func 139) #[] #[.pointer (some ⟨Bo + 1, 0, none⟩)], .agg (M.cell x).toArray, undef, undef, undef, undef, undef], defers := [] }
set_option maxRecDepth 100000 in
set_option maxHeartbeats 4000000 in
theorem plist_in (c : Nat → Int) (t : Nat) (w : World) (hc : PosOk c) (hT : Tb w) (ht : c 78 = (t : Int)) (ht1 : t ≤ 1) (hok : Z.ok c = true) :
    Calls Tryz.prog 25 #[.agg (posC c)] w (Z.End (Z.allR c (Z.own c) (Z.oth c) t (B.list (Z.own c))) w) := by
  have HOf : Hid (∀ w, Calls Tryz.prog 69 #[.agg (posC c)] w fun e w' => e = .returned (.tuple #[.agg (Z.sd c (Z.own c) (Z.oth c)), .bool true]) ∧ Below w.heap.size w w') := Lib.hid (fun w => by
    have := pof_any c w hc
    unfold Z.ofV at this
    rwa [if_pos hok] at this)
  have hL64 := B.list_len (Z.own c)
  obtain ⟨o, ho⟩ : ∃ o, Z.own c = o := ⟨_, rfl⟩
  obtain ⟨uo, hh⟩ : ∃ uo, Z.oth c = uo := ⟨_, rfl⟩
  rw [ho, hh] at HOf
  rw [ho] at hL64
  rw [ho, hh]
  have hlen := Z.allR_len c o uo t (B.list o)
  have HL := Lib.hid (show (Z.allR c o uo t (B.list o)).length ≤ 20480 by omega)
  have HT := Lib.hid hT
  have HC := Lib.hid (And.intro hc ht)
  have hp := PosAt.new w c
  have hb0 : Below w.heap.size w (w.alloc (.cells (posC c) 31)) := (Below.refl _ _).alloc (Nat.le_refl _) _
  obtain ⟨W, hW⟩ : ∃ W, w.alloc (.cells (posC c) 31) = W := ⟨_, rfl⟩
  rw [hW] at hp hb0
  have hs0 : W.heap.size = w.heap.size + 1 := by rw [← hW]; simp
  have HP := Lib.hid hp
  have HB := Lib.hid hb0
  clear hc ht hok ho hh hlen hL64 hT hp hb0
  refine (callsIn_wide (n := 6)).1 ?_
  refine callsIn_of_wp_marks Tryz.func25 rfl trivial ?_ rfl
  refine wpIn_wide.2 ?_
  simp only [Tryz.ntmps25, List.size_toArray, List.length_cons, List.length_nil, Nat.reduceAdd, Nat.reduceSub, Array.replicate_succ, Array.replicate_zero, List.push_toArray, List.append_toArray, List.nil_append, List.cons_append]
  go_wp2_with (first
    | ((with_reducible refine wp_load_box rfl _ rfl ?_); refine ⟨_, _, rfl, HP.out, ?_⟩)
    | (go_at_call 69; refine (HOf.out _).mono ?_; rintro e w1 ⟨rfl, hb1⟩)
    | ((with_reducible refine wp_store_row' rfl 94 _ _ rfl ?_); refine ⟨w1.heap.size, 94, Z.sd c o uo, rfl, rfl, ⟨_, heap_alloc_new _ _, (by rw [Z.sd_size]; rfl)⟩, Z.info _ _ _, Z.sd_one _ _ _, ?_⟩; intro W2 hP2 hR2)
    | ((with_reducible refine wp_load_row' rfl 94 _ rfl Tryz.underlying94 rfl ?_); refine ⟨w1.heap.size, 94, Z.sd c o uo, rfl, hR2.alloc _, Z.info _ _ _, ?_⟩)
    | (go_at_call 79; refine (smoves_any _ _ _ _).mono ?_; rintro e w' ⟨rfl, rfl⟩))
  have hb2 := hP2.below ((below_next HB.out hb1).alloc (below_next HB.out hb1).size (.cells Tryz.zeroCells94 94)) (below_next HB.out hb1).size
  have hs1 := (below_next HB.out hb1).size
  have hs2 : w1.heap.size + 1 = W2.heap.size := by rw [hP2.size]; simp
  obtain ⟨Bo, hBo⟩ : ∃ Bo, W2.heap.size = Bo := ⟨_, rfl⟩
  have bO := Boxed.new W2 33 (.slice none 0 0)
  have hbA := hb2.alloc hb2.size (.cells #[.slice none 0 0] 33)
  have hRs := RowAt.new (W2.alloc (.cells #[.slice none 0 0] 33)) (Z.sd c o uo) 94
  have hbB := hbA.alloc hbA.size (.cells (Z.sd c o uo) 94)
  replace bO := bO.alloc (.cells (Z.sd c o uo) 94)
  rw [World.size_alloc, hBo] at hRs
  rw [hBo] at bO hs2 ⊢
  have hs0 : ((W2.alloc (.cells #[.slice none 0 0] 33)).alloc (.cells (Z.sd c o uo) 94)).heap.size = Bo + 2 := by simp; omega
  obtain ⟨W0, hW0⟩ : ∃ W0, (W2.alloc (.cells #[.slice none 0 0] 33)).alloc (.cells (Z.sd c o uo) 94) = W0 := ⟨_, rfl⟩
  rw [hW0] at bO hRs hbB hs0 ⊢
  have hI0 : Z.Row w Bo (fun q => q = Bo + 1) [] W0 := ⟨_, bO, World.ownsRow_nil _ _ _ _, (fun q e => by cases e), (fun q e => by have e : q = Bo + 1 := e; omega), (fun e => by have e : Bo = Bo + 1 := e; omega), hbB⟩
  have HI0 := Lib.hid hI0
  have HRs := Lib.hid hRs
  have HbB := Lib.hid hbB
  clear hb1 hP2 hR2 hb2 bO hbA hRs hbB hW0 hI0 hW
  obtain ⟨i0, hi, hz0, hz1, hz2⟩ := info_parts Tryz.info_Mv
  refine (wpIn_wide (n := 6)).1 ?_
  refine rangeFunc_tellsO (gf := 139) (lb := #[.pointer (some ⟨Bo + 1, 0, none⟩)]) Bo (by omega) (fun q => q = Bo + 1) (by rintro q rfl; omega) rfl (enters_of Tryz.func139 (by kernel_rfl) rfl) (fun x : Mv => Z.enc x) (fun _ => rfl)
    (Z.Row w Bo) (fun pre _ _ => pre.length ≤ 30000) (fun x a' W => ∃ Bm, RowAt W Bm 40 (M.cell x).toArray ∧ a' = Z.slots c o uo w w1 Bo Bm x)
    (fun xs => xs = Z.allR c o uo t (B.list o)) (Z.Row.grow w Bo) (Z.Row.put w Bo (by omega)) (fun O s => Z.Row.puts w W0 Bo (by omega) O s) (fun _ _ _ _ _ _ h _ _ _ => h) ?ax ?iter HI0.out ?assign ?body ?done
  case ax =>
    rintro x a' W l o1 o' ⟨Bm, hm, rfl⟩ hl ho hn
    exact ⟨Bm, ⟨(World.putObj_heap_other (by intro e; subst e; rw [hm.heap] at ho; cases ho; cases hn)).trans hm.heap⟩, rfl⟩
  case iter =>
    intro l J W hW hJ1 hJ2 h0 hY
    refine (moves1_tells (6 - 1) l Bo (Bo + 1) c o uo t HC.out.1 HC.out.2 ht1 J (fun q => q = Bo + 1) W hJ1 hJ2 h0 (by have := hW.size; omega) (by rintro q rfl; have := hW.size; omega) rfl (HRs.out.belowB hW (by omega)) (fun W' hb => tb_below HT.out (HbB.out.trans ((hW.mono (by omega)).trans (hb.mono (by omega))))) (fun O' q x W1 h1 h2 => hY O' q x W1 h1 h2))
  case assign =>
    intro l O pre x W Kk hI hx hK
    have HI := Lib.hid hI
    have HK := Lib.hid hK
    obtain ⟨f, g, p, d, ca⟩ := x
    clear hI hK
    simp only [Z.enc, M.cell]
    gi_wp2
    have hbn : Below W.heap.size W (W.alloc (.cells #[.int .i8 f, .int .i8 g, .int .u8 p, .int .u8 d, .bool ca] 40)) := (Below.refl _ _).alloc (Nat.le_refl _) _
    obtain ⟨v, hv, _, _, hO, _⟩ := HI.out
    exact HK.out _ _ (K.KeepsFrom.of_below hbn) (KO.of_below hbn (by have := hv.lt; omega) (fun q hq => (hO q hq).2)) (Z.Row.grow w Bo O O pre W _ HI.out hbn (fun q hq => .inl hq)) hx ⟨W.heap.size, RowAt.new _ _ _, rfl⟩
  case body =>
    rintro l O pre x a' W hl ⟨v, hv, hrow, hq, hO, hB, hb⟩ hx ⟨Bm, hm, rfl⟩
    obtain ⟨f, g, p, d, ca⟩ := x
    have m0 := hm.cell 0
    have m1 := hm.cell 1
    have m2 := hm.cell 2
    have m3 := hm.cell 3
    have m4 := hm.cell 4
    simp only [M.cell, List.getElem?_toArray, List.getElem?_cons_zero, List.getElem?_cons_succ] at m0 m1 m2 m3 m4
    have hc := hv.cell
    have hlt := hv.lt
    have HW := Lib.hid (And.intro hq (And.intro hO (And.intro hB hb)))
    simp only [Z.slots, M.cell]
    clear hq hO hB hb hm hl
    gi_wp2_with (gi_at_builtin; refine wpListIn_append_own_at _ rfl _ _ 33 rfl Bo 40 i0 (.agg #[.int .i8 0, .int .i8 0, .int .u8 0, .int .u8 0, .bool false]) 5 5 Tryz.underlying33 hi hz0 hz1 hz2 rfl (by decide) _ _ _ rfl (hrow.alloc _) ⟨W.heap.size, 0, none⟩ 1 1 (M.cell (f, g, p, d, ca)) rfl rfl (mv_row (RowAt.newAt W (M.cell (f, g, p, d, ca)).toArray 40 _ rfl)) (mv_one _) (by unfold maxLen; omega) (by omega) (by simp; omega) ?_; intro v' w3 hown' hgrow _ hat; obtain ⟨g', cap', rfl⟩ := ownsRow_succ hown'; obtain ⟨hv1, hv2, hr2, hk2, hb2⟩ := hv.appended (by decide) hrow (by omega) (Nat.le_refl _) hown' hgrow; have hc1 := hv1.cell; have hf1 := hv1.frozen)
    obtain ⟨hq, hO, hB, hb⟩ := HW.out
    have hsz := hb2.size
    refine ⟨hk2.from _, ⟨hb2, fun q hq' => ?_⟩, ⟨_, hv2, ?_, fun q e hq' => ?_, fun q h => ⟨(hO q h).1, by have := (hO q h).2; omega⟩, hB, hb.trans (hb2.mono (by omega))⟩⟩
    · have h1 := (hO q hq').2
      exact ((grownBy_setCell' w3 Bo _).block q (by have := hgrow.size; simp at this; omega) (fun e => hB (by cases e; exact hq'))).trans ((hgrow.block q (by simp; omega) (fun e => hq q e.symm hq')).trans (Below.heap_alloc W _ _ h1))
    · rw [List.length_append, M.cells_snoc]
      exact hr2
    · rcases hat with h | h
      · exact hq q (h.symm.trans e) hq'
      · have h1 := (hO q hq').2
        rw [h] at e
        simp at e
        omega
  case done =>
    rintro D O xs W hD rfl ⟨v, hv, hrow, _, _, _, hb⟩ hK
    have hc := hv.cell
    go_wp2
    refine ⟨by simp, .inl ⟨_, _, rfl, run_takeDeferred hK, ?_⟩⟩
    exact ⟨_, results_tmp rfl _ _ _, v, rfl, owns_low (ownsRow_putObj hrow _ hK rfl) (by omega), hb.grown (grownBy_putObj' W D _) hb.size (fun k e => by cases e; omega)⟩
/-- THE CONTRACT of pseudo.List. -/
theorem plist_any (c : Nat → Int) (w : World) (hc : PosOk c) (hT : Tb w) : Calls Tryz.prog 25 #[.agg (posC c)] w (Z.End (D.lst c) w) := by
  obtain ⟨t0, _⟩ := pos_u8 hc (i := 78) (by decide) rfl
  obtain ⟨t, ht⟩ : ∃ t : Nat, c 78 = (t : Int) := ⟨(c 78).toNat, by omega⟩
  cases hok : Z.ok c
  · have HOf : Hid (∀ w, Calls Tryz.prog 69 #[.agg (posC c)] w fun e w' => e = .returned (.tuple #[.agg (Z.sd (fun _ => 0) 0#64 0#64), .bool false]) ∧ Below w.heap.size w w') := Lib.hid (fun w => by
      have := pof_any c w hc
      unfold Z.ofV at this
      rwa [if_neg (by rw [hok]; simp)] at this)
    have E := Lib.hid (show D.lst c = [] by unfold D.lst; rw [if_neg (by rw [hok]; simp)])
    have hp := PosAt.new w c
    have hb0 : Below w.heap.size w (w.alloc (.cells (posC c) 31)) := (Below.refl _ _).alloc (Nat.le_refl _) _
    obtain ⟨W, hW⟩ : ∃ W, w.alloc (.cells (posC c) 31) = W := ⟨_, rfl⟩
    rw [hW] at hp hb0
    have HP := Lib.hid hp
    have HB := Lib.hid hb0
    clear hok ht t0 hT hc hp hb0
    go_enter Tryz.func25, Tryz.ntmps25
    go_wp2_with (first
      | ((with_reducible refine wp_load_box rfl _ rfl ?_); refine ⟨_, _, rfl, HP.out, ?_⟩)
      | (go_at_call 69; refine (HOf.out _).mono ?_; rintro e w1 ⟨rfl, hb1⟩)
      | ((with_reducible refine wp_store_row' rfl 94 _ _ rfl ?_); refine ⟨w1.heap.size, 94, Z.sd (fun _ => 0) 0#64 0#64, rfl, rfl, ⟨_, heap_alloc_new _ _, (by rw [Z.sd_size]; rfl)⟩, Z.info _ _ _, Z.sd_one _ _ _, ?_⟩; intro W2 hP2 hR2))
    go_ret
    have hb3 := below_next HB.out hb1
    exact ⟨_, rfl, by rw [E.out]; exact World.ownsRow_nil _ _ _ _, hP2.below (hb3.alloc hb3.size _) hb3.size⟩
  · have ht1 : t ≤ 1 := by
      unfold Z.ok at hok
      simp at hok
      omega
    have := plist_in c t w hc hT ht ht1 hok
    rw [show D.lst c = Z.allR c (Z.own c) (Z.oth c) t (B.list (Z.own c)) by
      unfold D.lst
      rw [if_pos hok, ht, Int.toNat_natCast, ← all_eq c t hc ht ht1]
      rfl]
    exact this
end Go.Proofs.YtgkndhpolcnjbaaGreatDoor
