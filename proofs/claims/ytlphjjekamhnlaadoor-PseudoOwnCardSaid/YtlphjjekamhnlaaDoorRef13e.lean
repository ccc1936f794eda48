/- The document's answer of layer 13: List. -/
import Derived.Test.YtlphjjekamhnlaaDoorRef13d
namespace Go.Proofs.YtlphjjekamhnlaaDoor
open Go.RowKit Go.Sort

theorem owns_low {w : World} {base b' : Nat} {e : TypeId} {size : Nat} {v : Value} {n : Nat} {xs : List Value} (h : w.ownsRow base e size v n xs) (hb : b' ≤ base) : w.ownsRow b' e size v n xs := by
  refine ⟨h.1, ?_⟩
  rcases h.2 with h2 | ⟨g, cap, cur, hv, hb', h3⟩
  · exact .inl h2
  · exact .inr ⟨g, cap, cur, hv, Nat.le_trans hb hb', h3⟩
theorem owns_lt {w : World} {base : Nat} {e : TypeId} {size : Nat} {v : Value} {n : Nat} {xs : List Value} (h : w.ownsRow base e size v n xs) : ∀ q, v.ownBlock = some q → q < w.heap.size := by
  rintro q hq
  rcases h.2 with ⟨rfl, rfl⟩ | ⟨g, cap, cur, rfl, hb, hg, _⟩
  · cases hq
  · cases hq
    exact (Array.getElem?_eq_some_iff.1 hg).1
theorem Tryd.size_u8M : (Tryd.prog.info? 5).map (·.size) = some 1 := by kernel_rfl
theorem RowAt.newAt (w : World) (cs : Array Value) (T : TypeId) (g : Nat) (h : g = w.heap.size) : RowAt (w.alloc (.cells cs T)) g T cs := h ▸ RowAt.new w cs T
theorem mbox (w1 : World) (a b : Nat) : ∃ W2, w1.alloc (.cells #[.int .i8 (a : Int), .int .i8 (b : Int), .int .u8 0, .int .u8 0, .bool false] 36) = W2 ∧ RowAt W2 w1.heap.size 36 #[.int .i8 (a : Int), .int .i8 (b : Int), .int .u8 0, .int .u8 0, .bool false] ∧ Below w1.heap.size w1 W2 ∧ W2.heap.size = w1.heap.size + 1 :=
  ⟨_, rfl, RowAt.new _ _ _, (Below.refl _ _).alloc (Nat.le_refl _) _, by simp⟩
theorem u8s_at (L : List Nat) (n u : Nat) (h : L[n]? = some u) : (V.u8s L)[n]? = some (.int .u8 (u : Int)) := by
  unfold V.u8s
  rw [List.getElem?_map, h]
  rfl
theorem take_snoc {α : Type} (L : List α) (n : Nat) (u : α) (h : L[n]? = some u) : L.take (n + 1) = L.take n ++ [u] := by
  rw [List.take_add_one, h]
  rfl
theorem Z.many (c : Nat → Int) (t a b : Nat) (h : P.kind (c (1 + a)) = 1 ∧ Z.rank t b = 7) : Z.eachL c t a b = (V.promos (c 0).toNat).map (Z.mv a b) := by unfold Z.eachL; rw [if_pos h]

set_option maxRecDepth 100000 in
set_option maxHeartbeats 16000000 in
theorem d13list_in (c : Nat → Int) (t : Nat) (w : World) (hc : PosOk c) (ht : c 78 = (t : Int)) (ht1 : t ≤ 1) (hok : Z.ok c = true) :
    Calls Tryd.prog 14 #[.agg (posC c)] w (Z.End (D.list13 c t) w) := by
  rw [D.list_row]
  have hp := PosAt.new w c
  have hb0 : Below w.heap.size w (w.alloc (.cells (posC c) 31)) := (Below.refl _ _).alloc (Nat.le_refl _) _
  obtain ⟨W, hW⟩ : ∃ W, w.alloc (.cells (posC c) 31) = W := ⟨_, rfl⟩
  rw [hW] at hp hb0
  obtain ⟨v0, v1⟩ := pos_u8 hc (i := 0) (by decide) rfl
  obtain ⟨v, hv⟩ : ∃ v : Nat, c 0 = (v : Int) := ⟨(c 0).toNat, by omega⟩
  have Hc := Lib.hid hc
  have HC : Hid (∀ w' : World, PosAt w' w.heap.size c → w'.cell? ⟨w.heap.size, 0, none⟩ = some (.int .u8 (v : Int)) ∧ w'.cell? ⟨w.heap.size, 78, none⟩ = some (.int .u8 (t : Int)) ∧ ∀ (a : Nat), a < 64 → w'.cell? ⟨w.heap.size, 1 + a, none⟩ = some (.int .u8 (c (1 + a)))) := Lib.hid (fun w' hq => by
    have h0 := hq.cell (i := 0) (by decide)
    have h78 := hq.cell (i := 78) (by decide)
    rw [hv, show pk 0 = .u8 from rfl] at h0
    rw [ht, show pk 78 = .u8 from rfl] at h78
    exact ⟨h0, h78, fun a ha => bd_cell hq.heap a ha⟩)
  have HTh : Hid (∀ w, Calls Tryd.prog 27 #[.agg (posC c)] w fun e w' => e = .returned (.bool true) ∧ Below w.heap.size w w') := Lib.hid (fun w => d13there_eq c true w hok)
  have HMay : Hid (∀ (a b : Nat), a < 64 → b < 64 → ∀ w, Calls Tryd.prog 28 #[.agg (posC c), .int .i64 (a : Int), .int .i64 (b : Int)] w fun e w' => e = .returned (.bool (D.may c t a b)) ∧ Below w.heap.size w w') := Lib.hid (fun a b ha hb w => d13may_any c t a b w hc ht ht1 ha hb)
  have HK : Hid (∀ (a : Nat), a < 64 → ∀ w, Calls Tryd.prog 29 #[.int .u8 (c (1 + a))] w fun e w' => e = .returned (.int .u8 (P.kind (c (1 + a)))) ∧ w = w') := Lib.hid (fun a ha w => d8kind_any _ w (pos_bd hc a ha).1 (pos_bd hc a ha).2)
  have HR : Hid (∀ (b : Nat), b < 64 → ∀ w T, T = (t : Int) → Calls Tryd.prog 30 #[.int .u8 T, .int .i64 (b : Int)] w fun e w' => e = .returned (.int .i64 (Z.rank t b : Nat)) ∧ w = w') := Lib.hid (fun b hb w T h => by rw [h]; exact d13rank_any t b w ht1 hb)
  have HV := Lib.hid hv
  have HP0 := Lib.hid hp
  have HB0 := Lib.hid hb0
  clear hc ht hok v0 v1 hv hp hb0
  go_enter Tryd.func14, Tryd.ntmps14
  go_wp2_with (first
    | ((with_reducible refine wp_load_box rfl _ rfl ?_); refine ⟨_, _, rfl, HP0.out, ?_⟩)
    | (go_at_call 27; refine (HTh.out _).mono ?_; rintro e w1 ⟨rfl, hb1⟩; have HP1 := Lib.hid (HP0.out.below hb1); have HB1 := Lib.hid (below_next HB0.out hb1); clear hb1))
  obtain ⟨i0, hi, hz0, hz1, hz2⟩ := info_parts Tryd.info_Mv
  go_loopw [3, 4] (fun x i wr => ∃ a : Nat, a ≤ 64 ∧ i = .int .i64 (a : Int) ∧ wr.ownsRow (w.heap.size + 1) 36 5 x (D.rowA c t a).length (M.cells (D.rowA c t a)) ∧ PosAt wr w.heap.size c ∧ Below w.heap.size w wr) (fun _ i _ => 64 - (intOf i).toNat)
  case atStart => exact ⟨0, Nat.zero_le _, rfl, World.ownsRow_nil _ _ _ _, HP1.out, HB1.out⟩
  case round =>
    obtain ⟨a, ha, rfl, hown, hp, hbr⟩ := hrel
    by_cases hlt : a < 64
    · have hlA := D.rowA_len c t a
      obtain ⟨LA, hLA⟩ : ∃ LA, D.rowA c t a = LA := ⟨_, rfl⟩
      have HA := Lib.hid hLA
      rw [hLA] at hown hlA
      have HO := Lib.hid hown
      have HP := Lib.hid hp
      have HB := Lib.hid hbr
      clear hown hp hbr hLA ha
      go_wp2
      rw [show decide ((a : Int) < 64) = true by simp; omega]
      go_loopw [3, 5] (fun x i wr => ∃ b : Nat, b ≤ 64 ∧ i = .int .i64 (b : Int) ∧ wr.ownsRow (w.heap.size + 1) 36 5 x (LA ++ D.rowB c t a b).length (M.cells (LA ++ D.rowB c t a b)) ∧ PosAt wr w.heap.size c ∧ Below w.heap.size w wr) (fun _ i _ => 64 - (intOf i).toNat)
      case atStart => exact ⟨0, Nat.zero_le _, rfl, by rw [show D.rowB c t a 0 = [] from rfl, List.append_nil]; exact HO.out, HP.out, HB.out⟩
      case round =>
        obtain ⟨b, hb, rfl, hown, hp, hbr⟩ := hrel
        by_cases hlb : b < 64
        · have hlB := D.rowB_len c t a b
          have hst := D.rowB_succ c t a b
          obtain ⟨m, hm⟩ : ∃ m, D.may c t a b = m := ⟨_, rfl⟩
          have HM := Lib.hid (HMay.out a b hlt hlb)
          rw [hm] at HM hst
          clear hm
          cases m
          · rw [if_neg (by simp), List.append_nil] at hst
            have HST := Lib.hid hst
            clear hst hb
            go_wp2_with (first
              | ((with_reducible refine wp_load_box rfl _ rfl ?_); refine ⟨_, _, rfl, hp, ?_⟩)
              | (go_at_call 28; refine (HM.out _).mono ?_; rintro e w2 ⟨rfl, hb2⟩; replace hown := owns_below hown hb2; replace hp := hp.below hb2; replace hbr := below_next hbr hb2; clear hb2))
            go_roundw
            case rel => exact ⟨b + 1, by omega, by go_num, by rw [HST.out]; exact hown, hp, hbr⟩
            case measure => simp [intOf]; omega
          · rw [if_pos rfl] at hst
            obtain ⟨LB, hLB⟩ : ∃ LB, LA ++ D.rowB c t a b = LB := ⟨_, rfl⟩
            have hst2 : LA ++ D.rowB c t a (b + 1) = LB ++ Z.eachL c t a b := by rw [hst, ← List.append_assoc, hLB]
            have hlL : LB.length ≤ 30000 := by rw [← hLB, List.length_append]; omega
            rw [hLB] at hown
            have HKa := Lib.hid (HK.out a hlt)
            have HRb := Lib.hid (HR.out b hlb)
            have h1 := Z.one_of c t a b
            have h2 := Z.many c t a b
            obtain ⟨x, hx⟩ : ∃ x, c (1 + a) = x := ⟨_, rfl⟩
            rw [hx] at HKa h1 h2
            generalize P.kind x = k at *
            generalize Z.rank t b = r at *
            have HX := Lib.hid hx
            have w8a := i8_sq a hlt
            have w8b := i8_sq b hlb
            clear hLB hst hlA hlB hx
            by_cases q : k = 1 ∧ r = 7
            · rw [h2 q] at hst2
              have d1 : (k != 1) = false := by simp; omega
              have d7 : ((r : Int) != 7) = false := by simp; omega
              rw [HV.out, Int.toNat_natCast] at hst2
              have HPr : Hid (∀ w, Calls Tryd.prog 31 #[.int .u8 (v : Int)] w fun e w' => ∃ x, e = .returned x ∧ w'.ownsRow w.heap.size 5 1 x (V.promos v).length (V.u8s (V.promos v)) ∧ Below w.heap.size w w') := Lib.hid (fun w => d7promotes_any v w)
              have hL6 : (V.promos v).length ≤ 6 := by have := V.last_bd v; unfold V.promos; simp; omega
              obtain ⟨L, hL⟩ : ∃ L, V.promos v = L := ⟨_, rfl⟩
              rw [hL] at HPr hst2 hL6
              have HE := Lib.hid hst2
              have HH := Lib.hid (And.intro hb hlb)
              clear hst2 h1 h2 q hL hb
              go_wp2_with (first
                | ((with_reducible refine wp_load_box rfl _ rfl ?_); refine ⟨_, _, rfl, hp, ?_⟩)
                | (go_at_call 28; refine (HM.out _).mono ?_; rintro e w2 ⟨rfl, hb2⟩; replace hown := owns_below hown hb2; replace hp := hp.below hb2; replace hbr := below_next hbr hb2; have hlo := owns_lt hown; have hpl := hp.lt; clear hb2; have hm2 := RowAt.new w2 #[.int .i8 (a : Int), .int .i8 (b : Int), .int .u8 0, .int .u8 0, .bool false] 36; have hs2 : (w2.alloc (.cells #[.int .i8 (a : Int), .int .i8 (b : Int), .int .u8 0, .int .u8 0, .bool false] 36)).heap.size = w2.heap.size + 1 := (by simp); replace hown := hown.alloc (.cells #[.int .i8 (a : Int), .int .i8 (b : Int), .int .u8 0, .int .u8 0, .bool false] 36); replace hp := hp.alloc (.cells #[.int .i8 (a : Int), .int .i8 (b : Int), .int .u8 0, .int .u8 0, .bool false] 36); replace hbr := hbr.alloc hbr.size (.cells #[.int .i8 (a : Int), .int .i8 (b : Int), .int .u8 0, .int .u8 0, .bool false] 36); obtain ⟨k0, k78, ksq⟩ := HC.out _ hp; replace ksq := ksq a hlt; rw [HX.out] at ksq)
                | (go_at_call 29; refine (HKa.out _).mono ?_; rintro e w3 ⟨rfl, rfl⟩)
                | (go_at_call 30; refine (HRb.out _ _ (by first | rfl | omega)).mono ?_; rintro e w3 ⟨rfl, rfl⟩)
                | (go_at_call 31; refine (HPr.out _).mono ?_; rintro e w3 ⟨y3, rfl, hown3, hb4⟩; replace hown := owns_below hown hb4; replace hp := hp.below hb4; replace hbr := below_next hbr hb4; replace hm2 := hm2.below hb4; obtain ⟨ao, cap, rfl, hcap, hcm, hao⟩ := row_open1 hown3; clear hb4)
                )
              obtain ⟨g, hg⟩ : ∃ g, w2.heap.size = g := ⟨_, rfl⟩
              rw [hg] at hm2 hlo hpl hs2 ⊢
              have HO3 := Lib.hid hown
              have HM3 := Lib.hid hm2
              have HP3 := Lib.hid hp
              have HB3 := Lib.hid hbr
              have HK3 := Lib.hid (owns_low hown3 (show w.heap.size + 1 ≤ (w2.alloc (.cells #[.int .i8 (a : Int), .int .i8 (b : Int), .int .u8 0, .int .u8 0, .bool false] 36)).heap.size by omega))
              have HLO := Lib.hid hlo
              clear hown hm2 hp hbr hown3 hlo k0 k78 ksq hao hg
              try rw [show decide ((b : Int) < 64) = true by simp; omega]
              go_loopw [3, 8] (fun x i wr => ∃ n : Nat, n ≤ L.length ∧ i = .int .i64 (n : Int) ∧ wr.ownsRow (w.heap.size + 1) 36 5 x (LB ++ (L.take n).map (Z.mv a b)).length (M.cells (LB ++ (L.take n).map (Z.mv a b))) ∧ x.ownBlock ≠ some g ∧ (∃ p : Nat, RowAt wr g 36 #[.int .i8 (a : Int), .int .i8 (b : Int), .int .u8 (p : Int), .int .u8 0, .bool false]) ∧ wr.ownsRow (w.heap.size + 1) 5 1 (.slice ao L.length cap) L.length (V.u8s L) ∧ PosAt wr w.heap.size c ∧ Below w.heap.size w wr) (fun _ i _ => L.length - (intOf i).toNat)
              case atStart => exact ⟨0, Nat.zero_le _, rfl, by rw [List.take_zero, List.map_nil, List.append_nil]; exact HO3.out, (fun e => by have := HLO.out _ e; omega), ⟨0, HM3.out⟩, HK3.out, HP3.out, HB3.out⟩
              case round =>
                obtain ⟨n, hn, rfl, hown, hne, ⟨p, hm⟩, hk, hp, hbr⟩ := hrel
                by_cases hln : n < L.length
                · obtain ⟨u, hu⟩ : ∃ u, L[n]? = some u := ⟨L[n], List.getElem?_eq_getElem hln⟩
                  have HT := Lib.hid (take_snoc L n u hu)
                  have hlen : (LB ++ (L.take n).map (Z.mv a b)).length ≤ 30010 := by simp; omega
                  obtain ⟨ao2, cap2, e2, hcap2, hcm2, hao2⟩ := row_open1 hk
                  cases e2
                  obtain ⟨kb, rfl, hkb1, hkb2, hcell⟩ := hao2 (by omega)
                  have hc1 := hcell n _ (u8s_at L n u hu)
                  have hnm := RowAt.not_own hm hk (by decide)
                  have hgw : w.heap.size < g := by omega
                  have HK := Lib.hid hk
                  have HNM := Lib.hid hnm
                  have HNE := Lib.hid hne
                  clear hao2 hcell hu hk hnm hne
                  go_wp2_with (first
                    | ((with_reducible refine wp_store_at rfl _ _ _ rfl ?_); refine ⟨g, 2, 36, _, _, rfl, rfl, rfl, hm, (by simp), Tryd.size_u8M, ?_⟩; intro W5 hP5 hm5; replace hown := hP5.owns hown HNE.out; have HK5 := Lib.hid (hP5.owns HK.out HNM.out); replace hp : PosAt W5 w.heap.size c := ⟨(hP5.block _ (by omega)).trans hp.heap⟩; have hpl5 := hp.lt; replace hbr := hP5.below hbr (by omega); replace hm5 : RowAt W5 g 36 #[.int .i8 (a : Int), .int .i8 (b : Int), .int .u8 (u : Int), .int .u8 0, .bool false] := hm5)
                    | ((with_reducible refine wp_load_row' rfl 36 _ rfl Tryd.underlying36 rfl ?_); refine ⟨g, 36, #[.int .i8 (a : Int), .int .i8 (b : Int), .int .u8 (u : Int), .int .u8 0, .bool false], rfl, hm5, Tryd.size_Mv, ?_⟩)
                    | (at_builtin; refine wpList_append_own_at _ rfl _ _ 32 rfl (w.heap.size + 1) 36 i0 (.agg #[.int .i8 0, .int .i8 0, .int .u8 0, .int .u8 0, .bool false]) 5 5 Tryd.underlying32 hi hz0 hz1 hz2 rfl (by decide) _ _ _ rfl (hown.alloc _) ⟨_, 0, none⟩ 1 1 (M.cell (Z.mv a b u)) rfl rfl (mv_row (RowAt.newAt W5 (M.cell (Z.mv a b u)).toArray 36 _ (by first | rfl | simp))) (mv_one _) (by unfold maxLen; omega) (by omega) (by simp; omega) ?_; intro v' w4 hown4 hgrow _ hat)
                    )
                  have hkne : ∀ q, v'.ownBlock = some q → q ≠ g := fun q hq e => by
                    rcases hat with h | h
                    · exact HNE.out (h.symm.trans (hq.trans (by rw [e])))
                    · rw [hq, e] at h
                      have := hm5.lt
                      simp at h
                      omega
                  go_roundw
                  case measure => simp [intOf]; omega
                  refine ⟨n + 1, by omega, by go_num, ?_, (fun e => hkne _ e rfl), ⟨u, ?_⟩, ?_, ?_, ?_⟩
                  · rw [HT.out, List.map_append, ← List.append_assoc, List.length_append, List.map_cons, List.map_nil, M.cells_cons]; exact hown4
                  · exact (hm5.alloc _).grown hgrow (fun q hq e => HNE.out (hq.trans (by rw [e])))
                  · exact (HK5.out.alloc _).kept hgrow (.inr (fun e => owns_ne hown HK5.out (by decide) kb e.symm rfl))
                  · exact (hp.alloc _).grown hgrow (fun q hq => by have := (hown.lt q hq).1; omega)
                  · exact (hbr.alloc hbr.size _).grown hgrow (by simp; omega) (fun q hq => by have := (hown.lt q hq).1; omega)
                · obtain rfl : n = L.length := by omega
                  have HO4 := Lib.hid hown
                  have HP4 := Lib.hid hp
                  have HB4 := Lib.hid hbr
                  clear hown hne hm hk hp hbr
                  go_wp2
                  have hh := HH.out
                  go_roundw
                  case rel => exact ⟨b + 1, by omega, by go_num, by rw [HE.out]; have := HO4.out; rwa [List.take_length] at this, HP4.out, HB4.out⟩
                  case measure => simp [intOf]; omega
            · rw [h1 q] at hst2
              by_cases q1 : k = 1
              · have d1 : (k != 1) = false := by simp; omega
                have d7 : ((r : Int) != 7) = true := by simp; omega
                clear q1
                have HE := Lib.hid hst2
                clear hst2 h1 h2 q
                go_wp2_with (first
                  | ((with_reducible refine wp_load_box rfl _ rfl ?_); refine ⟨_, _, rfl, hp, ?_⟩)
                  | (go_at_call 28; refine (HM.out _).mono ?_; rintro e w2 ⟨rfl, hb2⟩; replace hown := owns_below hown hb2; replace hp := hp.below hb2; replace hbr := below_next hbr hb2; have hlo := owns_lt hown; have hpl := hp.lt; clear hb2; have hm2 := RowAt.new w2 #[.int .i8 (a : Int), .int .i8 (b : Int), .int .u8 0, .int .u8 0, .bool false] 36; have hs2 : (w2.alloc (.cells #[.int .i8 (a : Int), .int .i8 (b : Int), .int .u8 0, .int .u8 0, .bool false] 36)).heap.size = w2.heap.size + 1 := (by simp); replace hown := hown.alloc (.cells #[.int .i8 (a : Int), .int .i8 (b : Int), .int .u8 0, .int .u8 0, .bool false] 36); replace hp := hp.alloc (.cells #[.int .i8 (a : Int), .int .i8 (b : Int), .int .u8 0, .int .u8 0, .bool false] 36); replace hbr := hbr.alloc hbr.size (.cells #[.int .i8 (a : Int), .int .i8 (b : Int), .int .u8 0, .int .u8 0, .bool false] 36); obtain ⟨k0, k78, ksq⟩ := HC.out _ hp; replace ksq := ksq a hlt; rw [HX.out] at ksq)
                  | (go_at_call 29; refine (HKa.out _).mono ?_; rintro e w3 ⟨rfl, rfl⟩)
                  | (go_at_call 30; refine (HRb.out _ _ (by first | rfl | omega)).mono ?_; rintro e w3 ⟨rfl, rfl⟩)
                  | ((with_reducible refine wp_load_row' rfl 36 _ rfl Tryd.underlying36 rfl ?_); refine ⟨w2.heap.size, 36, #[.int .i8 (a : Int), .int .i8 (b : Int), .int .u8 0, .int .u8 0, .bool false], rfl, hm2, Tryd.size_Mv, ?_⟩)
                  | (at_builtin; refine wpList_append_own_at _ rfl _ _ 32 rfl (w.heap.size + 1) 36 i0 (.agg #[.int .i8 0, .int .i8 0, .int .u8 0, .int .u8 0, .bool false]) 5 5 Tryd.underlying32 hi hz0 hz1 hz2 rfl (by decide) _ _ _ rfl (hown.alloc _) ⟨_, 0, none⟩ 1 1 (M.cell (Z.mv a b 0)) rfl rfl (mv_row (RowAt.newAt (w2.alloc (.cells #[.int .i8 (a : Int), .int .i8 (b : Int), .int .u8 0, .int .u8 0, .bool false] 36)) (M.cell (Z.mv a b 0)).toArray 36 _ (by first | rfl | simp))) (mv_one _) (by unfold maxLen; omega) (by omega) (by simp; omega) ?_; intro v' w4 hown4 hgrow _ hat)
                  )
                go_roundw
                case measure => simp [intOf]; omega
                case rel =>
                  refine ⟨b + 1, by omega, by go_num, by rw [HE.out, List.length_append, M.cells_cons]; exact hown4, ?_, ?_⟩
                  · exact (hp.alloc _).grown hgrow (fun q hq => by have := (hown.lt q hq).1; omega)
                  · exact (hbr.alloc hbr.size _).grown hgrow (by simp; omega) (fun q hq => by have := (hown.lt q hq).1; omega)
              · have d1 : (k != 1) = true := by simp; omega
                clear q1
                have HE := Lib.hid hst2
                clear hst2 h1 h2 q
                go_wp2_with (first
                  | ((with_reducible refine wp_load_box rfl _ rfl ?_); refine ⟨_, _, rfl, hp, ?_⟩)
                  | (go_at_call 28; refine (HM.out _).mono ?_; rintro e w2 ⟨rfl, hb2⟩; replace hown := owns_below hown hb2; replace hp := hp.below hb2; replace hbr := below_next hbr hb2; have hlo := owns_lt hown; have hpl := hp.lt; clear hb2; have hm2 := RowAt.new w2 #[.int .i8 (a : Int), .int .i8 (b : Int), .int .u8 0, .int .u8 0, .bool false] 36; have hs2 : (w2.alloc (.cells #[.int .i8 (a : Int), .int .i8 (b : Int), .int .u8 0, .int .u8 0, .bool false] 36)).heap.size = w2.heap.size + 1 := (by simp); replace hown := hown.alloc (.cells #[.int .i8 (a : Int), .int .i8 (b : Int), .int .u8 0, .int .u8 0, .bool false] 36); replace hp := hp.alloc (.cells #[.int .i8 (a : Int), .int .i8 (b : Int), .int .u8 0, .int .u8 0, .bool false] 36); replace hbr := hbr.alloc hbr.size (.cells #[.int .i8 (a : Int), .int .i8 (b : Int), .int .u8 0, .int .u8 0, .bool false] 36); obtain ⟨k0, k78, ksq⟩ := HC.out _ hp; replace ksq := ksq a hlt; rw [HX.out] at ksq)
                  | (go_at_call 29; refine (HKa.out _).mono ?_; rintro e w3 ⟨rfl, rfl⟩)
                  | (go_at_call 30; refine (HRb.out _ _ (by first | rfl | omega)).mono ?_; rintro e w3 ⟨rfl, rfl⟩)
                  | ((with_reducible refine wp_load_row' rfl 36 _ rfl Tryd.underlying36 rfl ?_); refine ⟨w2.heap.size, 36, #[.int .i8 (a : Int), .int .i8 (b : Int), .int .u8 0, .int .u8 0, .bool false], rfl, hm2, Tryd.size_Mv, ?_⟩)
                  | (at_builtin; refine wpList_append_own_at _ rfl _ _ 32 rfl (w.heap.size + 1) 36 i0 (.agg #[.int .i8 0, .int .i8 0, .int .u8 0, .int .u8 0, .bool false]) 5 5 Tryd.underlying32 hi hz0 hz1 hz2 rfl (by decide) _ _ _ rfl (hown.alloc _) ⟨_, 0, none⟩ 1 1 (M.cell (Z.mv a b 0)) rfl rfl (mv_row (RowAt.newAt (w2.alloc (.cells #[.int .i8 (a : Int), .int .i8 (b : Int), .int .u8 0, .int .u8 0, .bool false] 36)) (M.cell (Z.mv a b 0)).toArray 36 _ (by first | rfl | simp))) (mv_one _) (by unfold maxLen; omega) (by omega) (by simp; omega) ?_; intro v' w4 hown4 hgrow _ hat)
                  )
                go_roundw
                case measure => simp [intOf]; omega
                case rel =>
                  refine ⟨b + 1, by omega, by go_num, by rw [HE.out, List.length_append, M.cells_cons]; exact hown4, ?_, ?_⟩
                  · exact (hp.alloc _).grown hgrow (fun q hq => by have := (hown.lt q hq).1; omega)
                  · exact (hbr.alloc hbr.size _).grown hgrow (by simp; omega) (fun q hq => by have := (hown.lt q hq).1; omega)
        · obtain rfl : b = 64 := by omega
          have HO2 := Lib.hid hown
          have HP2 := Lib.hid hp
          have HB2 := Lib.hid hbr
          clear hown hp hbr hb hlb
          go_wp2
          go_roundw
          case rel => exact ⟨a + 1, by omega, by go_num, by rw [D.rowA_succ, HA.out]; exact HO2.out, HP2.out, HB2.out⟩
          case measure => simp [intOf]; omega
    · obtain rfl : a = 64 := by omega
      go_wp2
      go_ret
      exact ⟨_, rfl, owns_low hown (by omega), hbr⟩
end Go.Proofs.YtlphjjekamhnlaaDoor
