/- The laws of layer 27: OrderSort. -/
import Derived.Test.YtdcmjbebkmicaaaRef27c
import Derived.Test.YtdcmjbebkmicaaaLaw27e
namespace Go.Proofs.Ytdcmjbebkmicaaa
open Go.RowKit Go.Sort Go.Lib

/-- Moves that a slice reads are put behind a row. -/
theorem wpl_append_reads {ops : Array Oper} {rest : List Oper} {o : Oper} {a : Act} {w : World} {Q : Exit → Act → World → Prop} (hgd : o.guard = none) (s x : Operand)
    (ho : o.op = .call { callee := .builtin .append, args := #[s, x], argTypes := #[40, 40] })
    (base : Nat) (v : Value) (n : Nat) (xs : List Value) (hs : a.eval s = v) (hown : w.ownsRow base 33 5 v n xs) (u : Value) (l : List Mv) (hx : a.eval x = u) (hr : M.Reads w u l) (hN : n + l.length ≤ 100000) (hbase : base ≤ w.heap.size)
    (h : ∀ v' w', w'.ownsRow base 33 5 v' (n + l.length) (xs ++ M.cells l) → w.grownBy w' v.ownBlock → wpList Try.prog ops Q rest (a.put o.dst v') w') : wpList Try.prog ops Q (o :: rest) a w := by
  obtain ⟨i0, hi, hz0, hz1, hz2⟩ := info_parts Try.info_MoveO
  obtain ⟨ao, cap, rfl, h2, h3, h4, h5⟩ := hr
  by_cases hz : 0 < l.length
  · obtain ⟨b, off, rfl, hbb, hcc⟩ := h5 hz
    exact wpList_append_own _ hgd _ _ 40 ho base 33 i0 (.agg #[.int .i8 0, .int .i8 0, .int .u8 0, .int .u8 0, .bool false]) 5 5 Try.underlying40 hi hz0 hz1 hz2 rfl (by decide) _ _ _ hs hown ⟨b, off, none⟩ l.length cap (M.cells l) hx (M.cells_len _) (fun j u hu => by rw [Addr.add_lit]; exact hcc j u hu) (M.cells_one _) (by unfold maxLen; omega) (by omega) hbase (fun v' w' h1 h2 _ => h v' w' h1 h2)
  · have e0 : l = [] := List.eq_nil_of_length_eq_zero (by omega)
    subst e0
    cases ao with
    | none =>
      obtain ⟨_, rfl⟩ := h4 rfl
      refine wpList_append_own_none hgd _ _ 40 ho base 33 i0 5 Try.underlying40 hi _ _ _ hs hown hx (h v w (by simpa [M.cells] using hown) ⟨rfl, rfl, rfl, Nat.le_refl _, fun _ _ _ => rfl⟩)
    | some ad =>
      exact wpList_append_own _ hgd _ _ 40 ho base 33 i0 (.agg #[.int .i8 0, .int .i8 0, .int .u8 0, .int .u8 0, .bool false]) 5 5 Try.underlying40 hi hz0 hz1 hz2 rfl (by decide) _ _ _ hs hown ad 0 cap (M.cells []) hx rfl (fun j u hu => by cases hu) (M.cells_one _) (by unfold maxLen; omega) (by omega) hbase (fun v' w' h1 h2 _ => h v' w' h1 h2)
theorem wp_load_rowG {P : Program} {ops : Array Oper} {rest : List Oper} {o : Oper} {a : Act} {w : World} {Q : Exit → Act → World → Prop} (hw : Region.wanted o (yielded ops a.tmps) = true) (ty : TypeId) (x : Operand) (ho : o.op = .load ty x) {d : TypeDesc} (hu : P.underlying ty = some d) (hd : (match d with | .struct _ | .array _ _ => true | _ => false) = true)
    (h : ∃ (g : Nat) (T : TypeId) (cs : Array Value), a.eval x = .pointer (some ⟨g, 0, none⟩) ∧ RowAt w g T cs ∧ (P.info? ty).map (·.size) = some cs.size ∧ wpList P ops Q rest (a.put o.dst (.agg cs)) w) : wpList P ops Q (o :: rest) a w := by
  obtain ⟨g, T, cs, hx, hp, hi, h⟩ := h
  refine wpList_step fun K hK => ?_
  rw [if_pos hw]
  exact wp_load_row ty x ho g hx T cs (0, 0) d hp.heap hu hd hi (hK _ _ h)
theorem Try.info_mvA {cs : Array Value} (h : cs.size = 5) : (Try.prog.info? 33).map (·.size) = some cs.size := Try.info_mv _ h
theorem O.owns_shape {w : World} {base : Nat} {v : Value} {n : Nat} {xs : List Value} (h : w.ownsRow base 33 5 v n xs) :
    ∃ ao cap, v = .slice ao n cap ∧ n ≤ cap ∧ cap ≤ maxLen ∧ (0 < n → ∃ b, ao = some ⟨b, 0, none⟩ ∧ base ≤ b ∧ b < w.heap.size) := by
  obtain ⟨ao, cap, h1, h2, h3, h4⟩ := M.row_open h
  exact ⟨ao, cap, h1, h2, h3, fun h0 => by obtain ⟨b, k1, k2, k3, _⟩ := h4 h0; exact ⟨b, k1, k2, k3⟩⟩

set_option maxRecDepth 100000 in
set_option maxHeartbeats 8000000 in
theorem orderSort_walk (c : Nat → Int) (l : List Mv) (v : Value) (f' g' p' d' : Int) (c' : Bool) (w : World) (hc : PosOk c) (hl : ∀ m ∈ l, O.MvOk m) (hr : M.Reads w v l) (_ : O.MvOk (f', g', p', d', c')) :
    Calls Try.prog 7 #[.agg (posC c), v, .agg #[.int .i8 f', .int .i8 g', .int .u8 p', .int .u8 d', .bool c']] w fun e w' => e = .returned (.bool true) ∧ Below w.heap.size w w' := by
  obtain ⟨A, hA⟩ : ∃ A : Array Value, #[.int .i8 f', .int .i8 g', .int .u8 p', .int .u8 d', .bool c'] = A := ⟨_, rfl⟩
  obtain ⟨W0, hW0⟩ : ∃ W0, ((w.alloc (.cells (posC c) 31)).alloc (.cells A 33)) = W0 := ⟨_, rfl⟩
  have hS0 : PosAt W0 w.heap.size c ∧ RowAt W0 (w.heap.size + 1) 33 A ∧ Below w.heap.size w W0 ∧ W0.heap.size = w.heap.size + 2 := by
    rw [← hW0]
    refine ⟨(PosAt.new w c).alloc _, ?_, ((Grows.alloc _ _).trans (Grows.alloc _ _)).below, by show ((w.heap.push _).push _).size = _; simp⟩
    have := RowAt.new (w.alloc (.cells (posC c) 31)) A 33
    rwa [show (w.alloc (.cells (posC c) 31)).heap.size = w.heap.size + 1 by show (w.heap.push _).size = _; simp] at this
  obtain ⟨hp, hm, hb0, hsz⟩ := hS0
  obtain ⟨ao, cap, hv, h1, h2, -⟩ := id hr
  subst hv
  have hs5 : A.size = 5 := by rw [← hA]; rfl
  rw [hA]
  have HAA := Lib.hid hA
  have HR := Lib.hid (fun W (hb : Below w.heap.size w W) => hr.below hb)
  have HCL := Lib.hid (And.intro hc hl)
  have hu := Try.underlying31
  have hinfo : (Try.prog.info? 31).map (·.size) = some (posL c).length := by rw [Try.infoPos]; simp [posL]
  clear hr hA hc hl
  go_enter Try.func7, Try.ntmps7
  by_cases hlen : 200 < l.length
  · have hlI : (200 : Int) < (l.length : Int) := by omega
    go_wp2_with fail
    go_ret
    exact ⟨rfl, hb0⟩
  · have hlI : ¬ (200 : Int) < (l.length : Int) := by omega
    have HS := Lib.hid (fun W v7 (h : M.Reads W v7 l) => osort_any c l v7 W HCL.out.1 HCL.out.2 (by omega) h)
    have HF := Lib.hid (fun W v7 (h : M.Reads W v7 l) => ofirst_any c l v7 f' g' p' d' c' W (by omega) h)
    have HDS := Lib.hid (fun W (h : Below w.heap.size w W) => d27sort_any c l _ W HCL.out.1 HCL.out.2 (by omega) (HR.out W h))
    have HDF := Lib.hid (fun W (h : Below w.heap.size w W) => d27first_any l _ f' g' p' d' c' W (by omega) (HR.out W h))
    rw [HAA.out] at HF HDF
    have hown0 : W0.ownsRow (w.heap.size + 2) 33 5 (.slice none 0 0) 0 [] := World.ownsRow_nil _ _ _ _
    have hrl := HR.out W0 hb0
    go_wp2_with (first
      | (at_builtin; refine wpl_append_reads rfl _ _ rfl (w.heap.size + 2) _ _ _ rfl hown0 _ l rfl hrl (by omega) (by omega) ?_; intro v7 w1 hown7 hgrow)
      | fail)
    have hbw : Below w.heap.size w w1 := hb0.grown hgrow (by omega) (fun q hq => by have := (hown0.lt q hq).1; omega)
    replace hp := hp.grown hgrow (fun q hq => by have := (hown0.lt q hq).1; omega)
    replace hm := hm.grown hgrow (fun q hq => by have := (hown0.lt q hq).1; omega)
    rw [Nat.zero_add, List.nil_append] at hown7
    clear hown0 hrl hgrow hb0 hsz hW0
    obtain ⟨q, hq⟩ : ∃ q, l.length = q := ⟨_, rfl⟩
    have Hq := Lib.hid hq
    rw [hq] at h1 hlen hlI hown7 HS HF HDS HDF ⊢
    unfold maxLen at h2
    clear hq
    go_loopw [8] (fun vi wr => ∃ t : Nat, t ≤ 2 ∧ vi = .int .i64 (t : Int) ∧ wr.ownsRow (w.heap.size + 2) 33 5 v7 q (M.cells l) ∧ PosAt wr w.heap.size c ∧ RowAt wr (w.heap.size + 1) 33 A ∧ Below w.heap.size w wr) (fun vi _ => 2 - (intOf vi).toNat)
    case atStart => exact ⟨0, by omega, rfl, hown7, hp, hm, hbw⟩
    case round =>
      clear hown7 hp hm hbw
      obtain ⟨t, ht, rfl, hown7, hp, hm, hbr⟩ := hrel
      by_cases hlt : t < 2
      · have htI : (t : Int) < 2 := by omega
        go_wp2_with fail
        refine wp_region_held (S := (fun W => W.ownsRow (w.heap.size + 2) 33 5 v7 q (M.cells l) ∧ PosAt W w.heap.size c ∧ RowAt W (w.heap.size + 1) 33 A ∧ Below w.heap.size w W)) (by kernel_rfl) ?_
        have hSd : wr.drew.ownsRow (w.heap.size + 2) 33 5 v7 q (M.cells l) ∧ PosAt wr.drew w.heap.size c ∧ RowAt wr.drew (w.heap.size + 1) 33 A ∧ Below w.heap.size w wr.drew := ⟨owns_below hown7 (M.below_drew (Below.refl _ _) 1), ⟨hp.heap⟩, ⟨hm.heap⟩, M.below_drew hbr 1⟩
        change wpAnyH _ _ _ _ _ _ _ _ wr.drew
        clear hown7 hp hm hbr
        generalize wr.drew = w2 at hSd ⊢
        refine takeD 0 (some 23) (.agg (posC c)) (by kernel_rfl) (by kernel_rfl) (by kernel_rfl) (by kernel_rfl) (by kernel_rfl) (fun _ _ _ h => h) (yieldsIf_load_mid (by kernel_rfl) 31 (.tmp 3) (by kernel_rfl) w.heap.size 0 (by kernel_rfl) (posL c) _ (fun _ h => pos_rangeO h.2.1.heap) hu rfl hinfo) hSd ?_
        simp only [Act.put, List.setIfInBounds_toArray, List.set_cons_succ, List.set_cons_zero]
        refine takeD 1 (some 24) (v7) (by kernel_rfl) (by kernel_rfl) (by kernel_rfl) (by kernel_rfl) (by kernel_rfl) (fun _ _ _ h => h) (yi_pure (v0 := v7) (by kernel_rfl) (fun _ => by kernel_rfl) rfl) hSd ?_
        simp only [Act.put, List.setIfInBounds_toArray, List.set_cons_succ, List.set_cons_zero]
        refine takeD 3 (some 26) (.agg (posC c)) (by kernel_rfl) (by kernel_rfl) (by kernel_rfl) (by kernel_rfl) (by kernel_rfl) (fun _ _ _ h => h) (yieldsIf_load_mid (by kernel_rfl) 31 (.tmp 3) (by kernel_rfl) w.heap.size 0 (by kernel_rfl) (posL c) _ (fun _ h => pos_rangeO h.2.1.heap) hu rfl hinfo) hSd ?_
        simp only [Act.put, List.setIfInBounds_toArray, List.set_cons_succ, List.set_cons_zero]
        refine takeD 4 (some 27) (v7) (by kernel_rfl) (by kernel_rfl) (by kernel_rfl) (by kernel_rfl) (by kernel_rfl) (fun _ _ _ h => h) (yi_pure (v0 := v7) (by kernel_rfl) (fun _ => by kernel_rfl) rfl) hSd ?_
        simp only [Act.put, List.setIfInBounds_toArray, List.set_cons_succ, List.set_cons_zero]
        refine takeD 5 (some 28) (.agg A) (by kernel_rfl) (by kernel_rfl) (by kernel_rfl) (by kernel_rfl) (by kernel_rfl) (fun _ _ _ h => h) (yi_load_mv (by kernel_rfl) (.tmp 5) (by kernel_rfl) (w.heap.size + 1) 33 _ (by kernel_rfl) hs5 (fun _ h => h.2.2.1)) hSd ?_
        simp only [Act.put, List.setIfInBounds_toArray, List.set_cons_succ, List.set_cons_zero]
        refine wpAnyH_all (rs := [2]) (by kernel_rfl) (by simp) (fun i hi => ?_)
        obtain rfl : i = 2 := by simpa using hi
        clear hi
        refine wpOp_atO rfl rfl ?_
        unfold Oper.wp
        go_simp
        refine (HS.out _ _ (M.reads_own (by rw [Hq.out]; exact hSd.1))).mono ?_
        rintro e w3 ⟨v2, l2, rfl, hs2, hown2, hb⟩
        have H2 := Lib.hid (fun g (e : v2.ownBlock = some g) => hown2.lt g e)
        have hS3 : w3.ownsRow (w.heap.size + 2) 33 5 v7 q (M.cells l) ∧ PosAt w3 w.heap.size c ∧ RowAt w3 (w.heap.size + 1) 33 A ∧ Below w.heap.size w w3 := ⟨owns_below hSd.1 hb, hSd.2.1.below hb, hSd.2.2.1.below hb, below_next hSd.2.2.2 hb⟩
        have HZ := Lib.hid hb
        clear hb
        refine ⟨hS3, ?_⟩
        refine wpAnyH_all (rs := [6]) (by kernel_rfl) (by simp) (fun i hi => ?_)
        obtain rfl : i = 6 := by simpa using hi
        clear hi
        refine wpOp_atO rfl rfl ?_
        unfold Oper.wp
        go_simp
        refine (HF.out _ _ (M.reads_own (by rw [Hq.out]; exact hS3.1))).mono ?_
        rintro e w4 ⟨v3, rfl, hown3, hb⟩
        have H3 := Lib.hid (fun g (e : v3.ownBlock = some g) => hown3.lt g e)
        have H7 := Lib.hid (fun g (e : v7.ownBlock = some g) => (hSd.1.lt g e).2)
        have hz2 := hSd.2.2.1.lt
        have hz3 := (HZ.out).size
        have hS4 : w4.ownsRow (w.heap.size + 2) 33 5 v7 q (M.cells l) ∧ PosAt w4 w.heap.size c ∧ RowAt w4 (w.heap.size + 1) 33 A ∧ Below w.heap.size w w4 := ⟨owns_below hS3.1 hb, hS3.2.1.below hb, hS3.2.2.1.below hb, below_next hS3.2.2.2 hb⟩
        replace hown2 := owns_below hown2 hb
        have hbs4 := hb.size
        clear hb
        refine ⟨hS4, ?_⟩
        refine takeD 7 (some 9) (v2) (by kernel_rfl) (by kernel_rfl) (by kernel_rfl) (by kernel_rfl) (by kernel_rfl) (fun _ _ _ h => h) (yi_pure (v0 := v2) (by kernel_rfl) (fun _ => by kernel_rfl) rfl) hS4 ?_
        simp only [Act.put, List.setIfInBounds_toArray, List.set_cons_succ, List.set_cons_zero]
        refine takeD 8 (some 10) (v3) (by kernel_rfl) (by kernel_rfl) (by kernel_rfl) (by kernel_rfl) (by kernel_rfl) (fun _ _ _ h => h) (yi_pure (v0 := v3) (by kernel_rfl) (fun _ => by kernel_rfl) rfl) hS4 ?_
        simp only [Act.put, List.setIfInBounds_toArray, List.set_cons_succ, List.set_cons_zero]
        refine wpAnyH_done (by kernel_rfl) ?_ _
        have hlen2 := O.sorted_len hs2
        obtain ⟨l3, hl3⟩ : ∃ l3, O.first l (f', g', p', d', c') = l3 := ⟨_, rfl⟩
        have hlen3 : l3.length = l.length := by rw [← hl3]; exact O.first_len _ _
        rw [hl3] at hown3 HDF
        have Hlen := Lib.hid (And.intro (hlen2.trans Hq.out) (hlen3.trans Hq.out))
        have Hs2 := Lib.hid hs2
        obtain ⟨hown7, hp, hm, hbr⟩ := hS4
        clear hlen2 hlen3 hs2 hl3 hS3 hSd HS HF hu hinfo
        go_wp2_with (first
          | ((with_reducible refine wp_load_box rfl _ rfl ?_); refine ⟨_, _, rfl, hp, ?_⟩)
          | ((with_reducible refine wp_load_box_g rfl _ rfl ?_); refine ⟨_, _, rfl, hp, ?_⟩)
          | ((with_reducible refine wp_load_row' rfl 33 _ rfl Try.underlying33 rfl ?_); refine ⟨_, _, _, rfl, hm, ?_, ?_⟩; exact Try.info_mvA hs5)
          | ((with_reducible refine wp_load_rowG rfl 33 _ rfl Try.underlying33 rfl ?_); refine ⟨_, _, _, rfl, hm, ?_, ?_⟩; exact Try.info_mvA hs5)
          | (go_at_call 18; (with_reducible refine (HDS.out _ hbr).mono ?_); rintro e u ⟨v5, l5, rfl, hs5x, hown5, hb⟩; replace hp := hp.below hb; replace hm := hm.below hb; replace hown7 := owns_below hown7 hb; replace hown2 := owns_below hown2 hb; replace hown3 := owns_below hown3 hb; obtain rfl : l5 = l2 := O.sorted_one HCL.out.1 HCL.out.2 hs5x Hs2.out; clear hs5x; replace hbr := below_next hbr hb; clear hb)
          | (go_at_call 19; (with_reducible refine (HDF.out _ hbr).mono ?_); rintro e u ⟨v6, rfl, hown6, hb⟩; replace hp := hp.below hb; replace hm := hm.below hb; replace hown7 := owns_below hown7 hb; replace hown2 := owns_below hown2 hb; replace hown3 := owns_below hown3 hb; replace hbr := below_next hbr hb; clear hb)
          | (go_at_call 17; (with_reducible refine (d27same_true l5 v2 v5 _ (M.reads_own (by rw [Hlen.out.1]; exact hown2)) (M.reads_own (by rw [Hlen.out.1]; exact hown5))).mono ?_); rintro e u ⟨rfl, hb⟩; replace hp := hp.below hb; replace hm := hm.below hb; replace hown7 := owns_below hown7 hb; replace hown2 := owns_below hown2 hb; replace hown3 := owns_below hown3 hb; replace hbr := below_next hbr hb; clear hb)
          | (go_at_call 17; (with_reducible refine (d27same_true l3 v3 v6 _ (M.reads_own (by rw [Hlen.out.2]; exact hown3)) (M.reads_own (by rw [Hlen.out.2]; exact hown6))).mono ?_); rintro e u ⟨rfl, hb⟩; replace hp := hp.below hb; replace hm := hm.below hb; replace hown7 := owns_below hown7 hb; replace hown2 := owns_below hown2 hb; replace hown3 := owns_below hown3 hb; replace hbr := below_next hbr hb; clear hb)
          | (go_at_call 17; (with_reducible refine (d27same_true l v7 _ _ (M.reads_own (by rw [Hq.out]; exact hown7)) (by have hh := HR.out _ hbr; rw [Hq.out] at hh; exact hh)).mono ?_); rintro e u ⟨rfl, hb⟩; replace hp := hp.below hb; replace hm := hm.below hb; replace hown7 := owns_below hown7 hb; replace hown2 := owns_below hown2 hb; replace hown3 := owns_below hown3 hb; replace hbr := below_next hbr hb; clear hb)
          | fail)
        have hX2 := Hlen.out.1
        have hX3 := Hlen.out.2
        clear hown5 hown6
        obtain ⟨ao2, cap2, rfl, j1, j2, j3⟩ := O.owns_shape hown2
        obtain ⟨ao3, cap3, rfl, i1, i2, i3⟩ := O.owns_shape hown3
        have j23 : ∀ g, (Value.slice ao2 q cap2).ownBlock = some g → g < w3.heap.size := fun g e => (H2.out g e).2
        unfold maxLen at j2 i2
        clear j3 i3
        have HX := Lib.hid (And.intro hX2 hX3)
        clear hX2 hX3
        go_loopw [11] (fun vi wr => ∃ (n : Nat) (X : List Mv), n ≤ q ∧ X.length = q ∧ vi = .int .i64 (n : Int) ∧ wr.ownsRow (w2.heap.size + 1) 33 5 (.slice ao2 q cap2) q (M.cells X) ∧ wr.ownsRow (w3.heap.size) 33 5 (.slice ao3 q cap3) q (M.cells l3) ∧ wr.ownsRow (w.heap.size + 2) 33 5 v7 q (M.cells l) ∧ PosAt wr w.heap.size c ∧ RowAt wr (w.heap.size + 1) 33 A ∧ Below w.heap.size w wr) (fun vi _ => q - (intOf vi).toNat)
        case atStart => exact ⟨0, l5, by omega, HX.out.1, rfl, hown2, hown3, hown7, hp, hm, hbr⟩
        case round =>
          clear hown2 hown3 hown7 hp hm hbr
          obtain ⟨n, X, hn, hX, rfl, hownX, hown3, hown7, hp, hm, hbr⟩ := hrel
          by_cases hln : n < q
          · obtain ⟨ao9, cap9, e9, k1, k2, k3⟩ := O.owns_shape hownX
            injection e9 with e1 _ e3
            obtain ⟨g, e, hg1, hg2⟩ := k3 (by omega)
            rw [e] at e1
            subst e1
            have h7g : v7.ownBlock ≠ some g := fun e => by have := H7.out g e; omega
            have h3g : (Value.slice ao3 q cap3).ownBlock ≠ some g := fun e => by have := H3.out g e; have := j23 g (by rfl); omega
            have hlnI : (n : Int) < (q : Int) := by omega
            clear e3 e k1 k2 k3
            go_wp2_with (first
              | (refine wpl_store_own (g := g) (n := q) (cap := cap2) rfl _ _ rfl n (0, 0, 0, 99, false) rfl rfl hX hln hownX ?_; intro W' hP hA')
              | fail)
            exact ⟨⟨n + 1, X.set n (0, 0, 0, 99, false), by omega, by rw [List.length_set]; exact hX, by go_num, hA', hP.owns hown3 h3g, hP.owns hown7 h7g, hP.pos hp (by omega), hP.row hm (by omega), hP.below hbr (by omega)⟩, by simp [intOf]; omega⟩
          · obtain rfl : q = n := by omega
            clear hownX hX hn hln
            go_wp2_with fail
            go_loopw [12] (fun vi wr => ∃ (n : Nat) (X : List Mv), n ≤ q ∧ X.length = q ∧ vi = .int .i64 (n : Int) ∧ wr.ownsRow (w3.heap.size) 33 5 (.slice ao3 q cap3) q (M.cells X) ∧ wr.ownsRow (w.heap.size + 2) 33 5 v7 q (M.cells l) ∧ PosAt wr w.heap.size c ∧ RowAt wr (w.heap.size + 1) 33 A ∧ Below w.heap.size w wr) (fun vi _ => q - (intOf vi).toNat)
            case atStart => exact ⟨0, l3, by omega, HX.out.2, rfl, hown3, hown7, hp, hm, hbr⟩
            case round =>
              clear hown3 hown7 hp hm hbr
              obtain ⟨n, X, hn, hX, rfl, hownX, hown7, hp, hm, hbr⟩ := hrel
              by_cases hln : n < q
              · obtain ⟨ao9, cap9, e9, k1, k2, k3⟩ := O.owns_shape hownX
                injection e9 with e1 _ e3
                obtain ⟨g, e, hg1, hg2⟩ := k3 (by omega)
                rw [e] at e1
                subst e1
                have h7g : v7.ownBlock ≠ some g := fun e => by have := H7.out g e; omega
                have hlnI : (n : Int) < (q : Int) := by omega
                clear e3 e k1 k2 k3
                go_wp2_with (first
                  | (refine wpl_store_own (g := g) (n := q) (cap := cap3) rfl _ _ rfl n (0, 0, 0, 99, false) rfl rfl hX hln hownX ?_; intro W' hP hA')
                  | fail)
                exact ⟨⟨n + 1, X.set n (0, 0, 0, 99, false), by omega, by rw [List.length_set]; exact hX, by go_num, hA', hP.owns hown7 h7g, hP.pos hp (by omega), hP.row hm (by omega), hP.below hbr (by omega)⟩, by simp [intOf]; omega⟩
              · obtain rfl : q = n := by omega
                clear hownX hX hn hln
                go_wp2_with fail
                exact ⟨⟨t + 1, by omega, by go_num, hown7, hp, hm, hbr⟩, by simp [intOf]; omega⟩
      · obtain rfl : t = 2 := by omega
        go_wp2_with fail
        go_ret
        exact ⟨rfl, hbr⟩

end Go.Proofs.Ytdcmjbebkmicaaa
